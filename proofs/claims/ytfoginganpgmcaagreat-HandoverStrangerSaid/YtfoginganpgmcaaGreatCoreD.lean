/- What each kind of operation comes to: one lemma an operation. Nothing here speaks of a program. -/
import Derived.Test.YtfoginganpgmcaaGreatCoreC
import Derived.WalkKit
import Derived.WalkSpells
import Derived.WalkLawsBesides
set_option linter.unusedSimpArgs false
set_option linter.unusedVariables false
namespace Go.Tw
open Go

def Sz (P : Program) (T : TypeId) (n : Nat) : Prop := ∀ w, (sizeOf T).run P w = .ok n w
def Ag (P : Program) (T : TypeId) (b : Bool) : Prop := ∀ w, (isAgg T).run P w = .ok b w
def Zr (P : Program) (T : TypeId) (v : Value) : Prop := ∀ w, (zeroValue T).run P w = .ok v w

def oneCell : Value → Bool
  | .agg _ | .tuple _ => false
  | _ => true

section quiet
variable {P : Program} {ρ : Operand → Value} {d : Option Nat} {ty : TypeId} {pos : String} {af : Array Edge} {gd : Option (Nat × Bool)} {w : World}

theorem x_move {x : Operand} : (execOp ρ ⟨d, .move x, ty, pos, af, gd⟩).run P w = .ok (.value (ρ x)) w := rfl
theorem x_assign {x : Operand} : (execOp ρ ⟨d, .assign x, ty, pos, af, gd⟩).run P w = .ok (.value (ρ x)) w := rfl
theorem x_pick {x a b : Operand} {t : Bool} (hx : ρ x = .bool t) : (execOp ρ ⟨d, .pick x a b, ty, pos, af, gd⟩).run P w = .ok (.value (bif t then ρ a else ρ b)) w := by
  cases t <;> simp [execOp, hx, go_sem]
theorem x_moveI {x : Operand} {k : IntKind} {a : Int} (hx : ρ x = .int k a) : (execOp ρ ⟨d, .move x, ty, pos, af, gd⟩).run P w = .ok (.value (.int k a)) w := hx ▸ rfl
theorem x_moveB {x : Operand} {t : Bool} (hx : ρ x = .bool t) : (execOp ρ ⟨d, .move x, ty, pos, af, gd⟩).run P w = .ok (.value (.bool t)) w := hx ▸ rfl
theorem x_moveS {x : Operand} {s : ByteArray} (hx : ρ x = .string s) : (execOp ρ ⟨d, .move x, ty, pos, af, gd⟩).run P w = .ok (.value (.string s)) w := hx ▸ rfl
theorem x_moveL {x : Operand} {a : Option Addr} {n c : Nat} (hx : ρ x = .slice a n c) : (execOp ρ ⟨d, .move x, ty, pos, af, gd⟩).run P w = .ok (.value (.slice a n c)) w := hx ▸ rfl
theorem x_moveP {x : Operand} {a : Option Addr} (hx : ρ x = .pointer a) : (execOp ρ ⟨d, .move x, ty, pos, af, gd⟩).run P w = .ok (.value (.pointer a)) w := hx ▸ rfl
theorem x_moveM {x : Operand} {m : Option Nat} (hx : ρ x = .map m) : (execOp ρ ⟨d, .move x, ty, pos, af, gd⟩).run P w = .ok (.value (.map m)) w := hx ▸ rfl
theorem x_moveA {x : Operand} {cs : Array Value} (hx : ρ x = .agg cs) : (execOp ρ ⟨d, .move x, ty, pos, af, gd⟩).run P w = .ok (.value (.agg cs)) w := hx ▸ rfl
theorem x_moveT {x : Operand} {cs : Array Value} (hx : ρ x = .tuple cs) : (execOp ρ ⟨d, .move x, ty, pos, af, gd⟩).run P w = .ok (.value (.tuple cs)) w := hx ▸ rfl
theorem x_moveF {x : Operand} {k : Fn} {a b : Array Value} (hx : ρ x = .func k a b) : (execOp ρ ⟨d, .move x, ty, pos, af, gd⟩).run P w = .ok (.value (.func k a b)) w := hx ▸ rfl
theorem x_moveV {x : Operand} (v : Value) (hx : ρ x = v) : (execOp ρ ⟨d, .move x, ty, pos, af, gd⟩).run P w = .ok (.value v) w := hx ▸ rfl
theorem x_assignI {x : Operand} {k : IntKind} {a : Int} (hx : ρ x = .int k a) : (execOp ρ ⟨d, .assign x, ty, pos, af, gd⟩).run P w = .ok (.value (.int k a)) w := hx ▸ rfl
theorem x_assignB {x : Operand} {t : Bool} (hx : ρ x = .bool t) : (execOp ρ ⟨d, .assign x, ty, pos, af, gd⟩).run P w = .ok (.value (.bool t)) w := hx ▸ rfl
theorem x_assignS {x : Operand} {s : ByteArray} (hx : ρ x = .string s) : (execOp ρ ⟨d, .assign x, ty, pos, af, gd⟩).run P w = .ok (.value (.string s)) w := hx ▸ rfl
theorem x_assignL {x : Operand} {a : Option Addr} {n c : Nat} (hx : ρ x = .slice a n c) : (execOp ρ ⟨d, .assign x, ty, pos, af, gd⟩).run P w = .ok (.value (.slice a n c)) w := hx ▸ rfl
theorem x_assignP {x : Operand} {a : Option Addr} (hx : ρ x = .pointer a) : (execOp ρ ⟨d, .assign x, ty, pos, af, gd⟩).run P w = .ok (.value (.pointer a)) w := hx ▸ rfl
theorem x_assignM {x : Operand} {m : Option Nat} (hx : ρ x = .map m) : (execOp ρ ⟨d, .assign x, ty, pos, af, gd⟩).run P w = .ok (.value (.map m)) w := hx ▸ rfl
theorem x_assignA {x : Operand} {cs : Array Value} (hx : ρ x = .agg cs) : (execOp ρ ⟨d, .assign x, ty, pos, af, gd⟩).run P w = .ok (.value (.agg cs)) w := hx ▸ rfl
theorem x_assignT {x : Operand} {cs : Array Value} (hx : ρ x = .tuple cs) : (execOp ρ ⟨d, .assign x, ty, pos, af, gd⟩).run P w = .ok (.value (.tuple cs)) w := hx ▸ rfl
theorem x_assignF {x : Operand} {k : Fn} {a b : Array Value} (hx : ρ x = .func k a b) : (execOp ρ ⟨d, .assign x, ty, pos, af, gd⟩).run P w = .ok (.value (.func k a b)) w := hx ▸ rfl
theorem x_assignV {x : Operand} (v : Value) (hx : ρ x = v) : (execOp ρ ⟨d, .assign x, ty, pos, af, gd⟩).run P w = .ok (.value v) w := hx ▸ rfl
theorem x_pickI {x a b : Operand} {t : Bool} {k : IntKind} {a' : Int} (hx : ρ x = .bool t) (hv : (bif t then ρ a else ρ b) = .int k a') : (execOp ρ ⟨d, .pick x a b, ty, pos, af, gd⟩).run P w = .ok (.value (.int k a')) w := hv ▸ x_pick hx
theorem x_pickB {x a b : Operand} {t : Bool} {t' : Bool} (hx : ρ x = .bool t) (hv : (bif t then ρ a else ρ b) = .bool t') : (execOp ρ ⟨d, .pick x a b, ty, pos, af, gd⟩).run P w = .ok (.value (.bool t')) w := hv ▸ x_pick hx
theorem x_pickS {x a b : Operand} {t : Bool} {s : ByteArray} (hx : ρ x = .bool t) (hv : (bif t then ρ a else ρ b) = .string s) : (execOp ρ ⟨d, .pick x a b, ty, pos, af, gd⟩).run P w = .ok (.value (.string s)) w := hv ▸ x_pick hx
theorem x_pickL {x a b : Operand} {t : Bool} {a' : Option Addr} {n c : Nat} (hx : ρ x = .bool t) (hv : (bif t then ρ a else ρ b) = .slice a' n c) : (execOp ρ ⟨d, .pick x a b, ty, pos, af, gd⟩).run P w = .ok (.value (.slice a' n c)) w := hv ▸ x_pick hx
theorem x_pickP {x a b : Operand} {t : Bool} {a' : Option Addr} (hx : ρ x = .bool t) (hv : (bif t then ρ a else ρ b) = .pointer a') : (execOp ρ ⟨d, .pick x a b, ty, pos, af, gd⟩).run P w = .ok (.value (.pointer a')) w := hv ▸ x_pick hx
theorem x_pickM {x a b : Operand} {t : Bool} {m : Option Nat} (hx : ρ x = .bool t) (hv : (bif t then ρ a else ρ b) = .map m) : (execOp ρ ⟨d, .pick x a b, ty, pos, af, gd⟩).run P w = .ok (.value (.map m)) w := hv ▸ x_pick hx
theorem x_pickA {x a b : Operand} {t : Bool} {cs : Array Value} (hx : ρ x = .bool t) (hv : (bif t then ρ a else ρ b) = .agg cs) : (execOp ρ ⟨d, .pick x a b, ty, pos, af, gd⟩).run P w = .ok (.value (.agg cs)) w := hv ▸ x_pick hx
theorem x_pickBB {x a b : Operand} {t u v : Bool} (hx : ρ x = .bool t) (ha : ρ a = .bool u) (hb : ρ b = .bool v) : (execOp ρ ⟨d, .pick x a b, ty, pos, af, gd⟩).run P w = .ok (.value (.bool (bif t then u else v))) w := by
  rw [x_pick hx, ha, hb]; cases t <;> rfl
theorem x_nilCheck {x : Operand} {a : Addr} (hx : ρ x = .pointer (some a)) : (execOp ρ ⟨d, .nilCheck x, ty, pos, af, gd⟩).run P w = .ok (.value (.pointer (some a))) w := by
  simp [execOp, hx, go_sem]
theorem x_extract {x : Operand} {i : Nat} {vs : Array Value} {v : Value} (hx : ρ x = .tuple vs) (hi : vs[i]? = some v) : (execOp ρ ⟨d, .extract x i, ty, pos, af, gd⟩).run P w = .ok (.value v) w := by
  simp [execOp, Instr.extract, hx, hi, go_sem]
theorem x_fieldAddr {T : TypeId} {x : Operand} {i : Nat} {a : Addr} {fs : Array Field} {fl : Field} {n : Nat} (hT : P.underlying T = some (.struct fs)) (hi : fs[i]? = some fl) (hn : Sz P fl.type (n + 1)) (hx : ρ x = .pointer (some a)) :
    (execOp ρ ⟨d, .fieldAddr T x i, ty, pos, af, gd⟩).run P w = .ok (.value (.pointer (some (a.add fl.offset)))) w := by
  simp [execOp, Instr.fieldAt, Instr.sureAddr, hx, hT, hi, go_sem, underlying, fieldPlace, hn w]
/-- A field of a struct in a temporary. -/
theorem x_field0 {T : TypeId} {x : Operand} {i : Nat} {cs : Array Value} {fs : Array Field} {fl : Field} {v : Value} (hT : P.underlying T = some (.struct fs)) (hi : fs[i]? = some fl) (hA : Ag P fl.type false) (hx : ρ x = .agg cs) (hv : cs[fl.offset]? = some v) :
    (execOp ρ ⟨d, .field T x i, ty, pos, af, gd⟩).run P w = .ok (.value v) w := by
  simp [execOp, Instr.field, hx, hT, hi, go_sem, underlying, part, hA w, hv, asAgg]
theorem x_field1 {T : TypeId} {x : Operand} {i n : Nat} {cs : Array Value} {fs : Array Field} {fl : Field} (hT : P.underlying T = some (.struct fs)) (hi : fs[i]? = some fl) (hA : Ag P fl.type true) (hn : Sz P fl.type n) (hx : ρ x = .agg cs) :
    (execOp ρ ⟨d, .field T x i, ty, pos, af, gd⟩).run P w = .ok (.value (.agg (cs.extract fl.offset (fl.offset + n)))) w := by
  simp [execOp, Instr.field, hx, hT, hi, go_sem, underlying, part, hA w, hn w, asAgg]
theorem x_load0 {T : TypeId} {x : Operand} {a : Addr} {v : Value} (hA : Ag P T false) (hx : ρ x = .pointer (some a)) (hv : w.cell? a = some v) :
    (execOp ρ ⟨d, .load T x, ty, pos, af, gd⟩).run P w = .ok (.value v) w := by
  simp [execOp, Instr.loadAt, Instr.sureAddr, loadVar, hx, hA w, hv, go_sem]

theorem x_field1V {T : TypeId} {x : Operand} {i n : Nat} {cs : Array Value} {fs : Array Field} {fl : Field} (v : Value) (hT : P.underlying T = some (.struct fs)) (hi : fs[i]? = some fl) (hA : Ag P fl.type true) (hn : Sz P fl.type n) (hx : ρ x = .agg cs) (hv : .agg (cs.extract fl.offset (fl.offset + n)) = v) :
    (execOp ρ ⟨d, .field T x i, ty, pos, af, gd⟩).run P w = .ok (.value v) w := hv ▸ x_field1 hT hi hA hn hx

theorem cell_of {w : World} {b off : Nat} {cs : Array Value} {E : TypeId} {z : Nat × Nat} (hb : w.heap[b]? = some (.cells cs E z)) : w.cell? ⟨b, off, none⟩ = cs[off]? := by
  simp [World.cell?, hb]

theorem add_off (b off n : Nat) : (⟨b, off, none⟩ : Addr).add n = ⟨b, off + n, none⟩ := by
  unfold Addr.add
  split
  · rename_i h; rw [h]; rfl
  · rfl

theorem run_loadCellsFrom {b : Nat} {cs : Array Value} {E : TypeId} {z : Nat × Nat} (hb : w.heap[b]? = some (.cells cs E z)) (off : Nat) : ∀ (n i : Nat) (acc : Array Value), off + i + n ≤ cs.size →
    (loadCellsFrom ⟨b, off, none⟩ i n acc).run P w = .ok (acc ++ cs.extract (off + i) (off + i + n)) w
  | 0, i, acc, _ => by
    have : cs.extract (off + i) (off + i + 0) = #[] := by apply Array.ext' ; simp
    rw [this]
    simp [loadCellsFrom, go_sem]
  | n + 1, i, acc, h => by
    have hc : w.cell? ⟨b, off + i, none⟩ = some cs[off + i] := by rw [cell_of hb]; simp
    simp only [loadCellsFrom, add_off]
    have ih := run_loadCellsFrom hb off n (i + 1) (acc.push cs[off + i]) (by omega)
    simp only [go_sem, load, hc, Sem.run, bind, Sem.bind]
    rw [ih]
    congr 1
    apply Array.ext
    · simp; omega
    · intro j h1 h2
      simp only [Array.getElem_append, Array.size_push, Array.getElem_push, Array.getElem_extract]
      by_cases ha : j < acc.size
      · simp [ha, show j < acc.size + 1 by omega]
      · by_cases hb : j = acc.size
        · subst hb; simp
        · rw [dif_neg (show ¬ j < acc.size + 1 by omega), dif_neg ha]
          congr 1
          omega

theorem x_load1 {T : TypeId} {x : Operand} {b off n : Nat} {cs : Array Value} {E : TypeId} {z : Nat × Nat} (hA : Ag P T true) (hn : Sz P T n) (hx : ρ x = .pointer (some ⟨b, off, none⟩)) (hb : w.heap[b]? = some (.cells cs E z)) (h : Nat.ble (off + n) cs.size = true) :
    (execOp ρ ⟨d, .load T x, ty, pos, af, gd⟩).run P w = .ok (.value (.agg (cs.extract off (off + n)))) w := by
  have h := Nat.le_of_ble_eq_true h
  have := run_loadCellsFrom (P := P) hb off n 0 #[] (by omega)
  simp [execOp, Instr.loadAt, Instr.sureAddr, loadVar, hx, hA w, hn w, go_sem, loadCells, this]

theorem x_load1V {T : TypeId} {x : Operand} {b off n : Nat} {cs : Array Value} {E : TypeId} {z : Nat × Nat} (v : Value) (hA : Ag P T true) (hn : Sz P T n) (hx : ρ x = .pointer (some ⟨b, off, none⟩)) (hb : w.heap[b]? = some (.cells cs E z)) (h : Nat.ble (off + n) cs.size = true) (hv : .agg (cs.extract off (off + n)) = v) :
    (execOp ρ ⟨d, .load T x, ty, pos, af, gd⟩).run P w = .ok (.value v) w := hv ▸ x_load1 hA hn hx hb h

theorem x_load0b {T : TypeId} {x : Operand} {b off : Nat} {cs : Array Value} {E : TypeId} {z : Nat × Nat} {v : Value} (hA : Ag P T false) (hx : ρ x = .pointer (some ⟨b, off, none⟩)) (hb : w.heap[b]? = some (.cells cs E z)) (h : cs[off]? = some v) :
    (execOp ρ ⟨d, .load T x, ty, pos, af, gd⟩).run P w = .ok (.value v) w := x_load0 hA hx (by rw [cell_of hb]; exact h)

theorem x_load0bI {T : TypeId} {x : Operand} {b off : Nat} {cs : Array Value} {E : TypeId} {z : Nat × Nat} {k : IntKind} {n : Int} (hA : Ag P T false) (hx : ρ x = .pointer (some ⟨b, off, none⟩)) (hb : w.heap[b]? = some (.cells cs E z)) (h : cs[off]? = some (.int k n)) :
    (execOp ρ ⟨d, .load T x, ty, pos, af, gd⟩).run P w = .ok (.value (.int k n)) w := x_load0b hA hx hb h
theorem x_field0I {T : TypeId} {x : Operand} {i : Nat} {cs : Array Value} {fs : Array Field} {fl : Field} {k : IntKind} {n : Int} (hT : P.underlying T = some (.struct fs)) (hi : fs[i]? = some fl) (hA : Ag P fl.type false) (hx : ρ x = .agg cs) (hv : cs[fl.offset]? = some (.int k n)) :
    (execOp ρ ⟨d, .field T x i, ty, pos, af, gd⟩).run P w = .ok (.value (.int k n)) w := x_field0 hT hi hA hx hv
theorem x_load0bB {T : TypeId} {x : Operand} {b off : Nat} {cs : Array Value} {E : TypeId} {z : Nat × Nat} {t : Bool} (hA : Ag P T false) (hx : ρ x = .pointer (some ⟨b, off, none⟩)) (hb : w.heap[b]? = some (.cells cs E z)) (h : cs[off]? = some (.bool t)) :
    (execOp ρ ⟨d, .load T x, ty, pos, af, gd⟩).run P w = .ok (.value (.bool t)) w := x_load0b hA hx hb h
theorem x_field0B {T : TypeId} {x : Operand} {i : Nat} {cs : Array Value} {fs : Array Field} {fl : Field} {t : Bool} (hT : P.underlying T = some (.struct fs)) (hi : fs[i]? = some fl) (hA : Ag P fl.type false) (hx : ρ x = .agg cs) (hv : cs[fl.offset]? = some (.bool t)) :
    (execOp ρ ⟨d, .field T x i, ty, pos, af, gd⟩).run P w = .ok (.value (.bool t)) w := x_field0 hT hi hA hx hv
theorem x_load0bS {T : TypeId} {x : Operand} {b off : Nat} {cs : Array Value} {E : TypeId} {z : Nat × Nat} {s : ByteArray} (hA : Ag P T false) (hx : ρ x = .pointer (some ⟨b, off, none⟩)) (hb : w.heap[b]? = some (.cells cs E z)) (h : cs[off]? = some (.string s)) :
    (execOp ρ ⟨d, .load T x, ty, pos, af, gd⟩).run P w = .ok (.value (.string s)) w := x_load0b hA hx hb h
theorem x_field0S {T : TypeId} {x : Operand} {i : Nat} {cs : Array Value} {fs : Array Field} {fl : Field} {s : ByteArray} (hT : P.underlying T = some (.struct fs)) (hi : fs[i]? = some fl) (hA : Ag P fl.type false) (hx : ρ x = .agg cs) (hv : cs[fl.offset]? = some (.string s)) :
    (execOp ρ ⟨d, .field T x i, ty, pos, af, gd⟩).run P w = .ok (.value (.string s)) w := x_field0 hT hi hA hx hv
theorem x_load0bL {T : TypeId} {x : Operand} {b off : Nat} {cs : Array Value} {E : TypeId} {z : Nat × Nat} {sa : Option Addr} {n cp : Nat} (hA : Ag P T false) (hx : ρ x = .pointer (some ⟨b, off, none⟩)) (hb : w.heap[b]? = some (.cells cs E z)) (h : cs[off]? = some (.slice sa n cp)) :
    (execOp ρ ⟨d, .load T x, ty, pos, af, gd⟩).run P w = .ok (.value (.slice sa n cp)) w := x_load0b hA hx hb h
theorem x_field0L {T : TypeId} {x : Operand} {i : Nat} {cs : Array Value} {fs : Array Field} {fl : Field} {sa : Option Addr} {n cp : Nat} (hT : P.underlying T = some (.struct fs)) (hi : fs[i]? = some fl) (hA : Ag P fl.type false) (hx : ρ x = .agg cs) (hv : cs[fl.offset]? = some (.slice sa n cp)) :
    (execOp ρ ⟨d, .field T x i, ty, pos, af, gd⟩).run P w = .ok (.value (.slice sa n cp)) w := x_field0 hT hi hA hx hv
theorem x_load0bP {T : TypeId} {x : Operand} {b off : Nat} {cs : Array Value} {E : TypeId} {z : Nat × Nat} {p : Option Addr} (hA : Ag P T false) (hx : ρ x = .pointer (some ⟨b, off, none⟩)) (hb : w.heap[b]? = some (.cells cs E z)) (h : cs[off]? = some (.pointer p)) :
    (execOp ρ ⟨d, .load T x, ty, pos, af, gd⟩).run P w = .ok (.value (.pointer p)) w := x_load0b hA hx hb h
theorem x_field0P {T : TypeId} {x : Operand} {i : Nat} {cs : Array Value} {fs : Array Field} {fl : Field} {p : Option Addr} (hT : P.underlying T = some (.struct fs)) (hi : fs[i]? = some fl) (hA : Ag P fl.type false) (hx : ρ x = .agg cs) (hv : cs[fl.offset]? = some (.pointer p)) :
    (execOp ρ ⟨d, .field T x i, ty, pos, af, gd⟩).run P w = .ok (.value (.pointer p)) w := x_field0 hT hi hA hx hv
theorem x_load0bM {T : TypeId} {x : Operand} {b off : Nat} {cs : Array Value} {E : TypeId} {z : Nat × Nat} {m : Option Nat} (hA : Ag P T false) (hx : ρ x = .pointer (some ⟨b, off, none⟩)) (hb : w.heap[b]? = some (.cells cs E z)) (h : cs[off]? = some (.map m)) :
    (execOp ρ ⟨d, .load T x, ty, pos, af, gd⟩).run P w = .ok (.value (.map m)) w := x_load0b hA hx hb h
theorem x_field0M {T : TypeId} {x : Operand} {i : Nat} {cs : Array Value} {fs : Array Field} {fl : Field} {m : Option Nat} (hT : P.underlying T = some (.struct fs)) (hi : fs[i]? = some fl) (hA : Ag P fl.type false) (hx : ρ x = .agg cs) (hv : cs[fl.offset]? = some (.map m)) :
    (execOp ρ ⟨d, .field T x i, ty, pos, af, gd⟩).run P w = .ok (.value (.map m)) w := x_field0 hT hi hA hx hv
theorem x_load0bF {T : TypeId} {x : Operand} {b off : Nat} {cs : Array Value} {E : TypeId} {z : Nat × Nat} {fn : Fn} {fa fb : Array Value} (hA : Ag P T false) (hx : ρ x = .pointer (some ⟨b, off, none⟩)) (hb : w.heap[b]? = some (.cells cs E z)) (h : cs[off]? = some (.func fn fa fb)) :
    (execOp ρ ⟨d, .load T x, ty, pos, af, gd⟩).run P w = .ok (.value (.func fn fa fb)) w := x_load0b hA hx hb h
theorem x_field0F {T : TypeId} {x : Operand} {i : Nat} {cs : Array Value} {fs : Array Field} {fl : Field} {fn : Fn} {fa fb : Array Value} (hT : P.underlying T = some (.struct fs)) (hi : fs[i]? = some fl) (hA : Ag P fl.type false) (hx : ρ x = .agg cs) (hv : cs[fl.offset]? = some (.func fn fa fb)) :
    (execOp ρ ⟨d, .field T x i, ty, pos, af, gd⟩).run P w = .ok (.value (.func fn fa fb)) w := x_field0 hT hi hA hx hv
theorem x_extractI {x : Operand} {i : Nat} {vs : Array Value} {k : IntKind} {n : Int} (hx : ρ x = .tuple vs) (hi : vs[i]? = some (.int k n)) : (execOp ρ ⟨d, .extract x i, ty, pos, af, gd⟩).run P w = .ok (.value (.int k n)) w := x_extract hx hi
theorem x_extractB {x : Operand} {i : Nat} {vs : Array Value} {t : Bool} (hx : ρ x = .tuple vs) (hi : vs[i]? = some (.bool t)) : (execOp ρ ⟨d, .extract x i, ty, pos, af, gd⟩).run P w = .ok (.value (.bool t)) w := x_extract hx hi
theorem x_extractS {x : Operand} {i : Nat} {vs : Array Value} {s : ByteArray} (hx : ρ x = .tuple vs) (hi : vs[i]? = some (.string s)) : (execOp ρ ⟨d, .extract x i, ty, pos, af, gd⟩).run P w = .ok (.value (.string s)) w := x_extract hx hi
theorem x_extractL {x : Operand} {i : Nat} {vs : Array Value} {sa : Option Addr} {n cp : Nat} (hx : ρ x = .tuple vs) (hi : vs[i]? = some (.slice sa n cp)) : (execOp ρ ⟨d, .extract x i, ty, pos, af, gd⟩).run P w = .ok (.value (.slice sa n cp)) w := x_extract hx hi
theorem x_extractP {x : Operand} {i : Nat} {vs : Array Value} {p : Option Addr} (hx : ρ x = .tuple vs) (hi : vs[i]? = some (.pointer p)) : (execOp ρ ⟨d, .extract x i, ty, pos, af, gd⟩).run P w = .ok (.value (.pointer p)) w := x_extract hx hi
theorem x_extractM {x : Operand} {i : Nat} {vs : Array Value} {m : Option Nat} (hx : ρ x = .tuple vs) (hi : vs[i]? = some (.map m)) : (execOp ρ ⟨d, .extract x i, ty, pos, af, gd⟩).run P w = .ok (.value (.map m)) w := x_extract hx hi
theorem x_extractF {x : Operand} {i : Nat} {vs : Array Value} {fn : Fn} {fa fb : Array Value} (hx : ρ x = .tuple vs) (hi : vs[i]? = some (.func fn fa fb)) : (execOp ρ ⟨d, .extract x i, ty, pos, af, gd⟩).run P w = .ok (.value (.func fn fa fb)) w := x_extract hx hi
theorem x_extractA {x : Operand} {i : Nat} {vs : Array Value} {cs : Array Value} (hx : ρ x = .tuple vs) (hi : vs[i]? = some (.agg cs)) : (execOp ρ ⟨d, .extract x i, ty, pos, af, gd⟩).run P w = .ok (.value (.agg cs)) w := x_extract hx hi
theorem x_fieldAddrN {T : TypeId} {x : Operand} {i b o o' : Nat} {fs : Array Field} {fl : Field} {n : Nat} (hT : P.underlying T = some (.struct fs)) (hi : fs[i]? = some fl) (hn : Sz P fl.type (n + 1)) (hx : ρ x = .pointer (some ⟨b, o, none⟩)) (ho : o + fl.offset = o') :
    (execOp ρ ⟨d, .fieldAddr T x i, ty, pos, af, gd⟩).run P w = .ok (.value (.pointer (some ⟨b, o', none⟩))) w := by
  rw [x_fieldAddr hT hi hn hx, add_off, ho]

/-! comparisons and arithmetic -/
theorem x_cmp {op : BinOp} {T T' : TypeId} {x y : Operand} {k : IntKind} {a b : Int} {v : Bool} (hx : ρ x = .int k a) (hy : ρ y = .int k b) (hop : Op.intCmp op a b = pure (.bool v))
    (hk : match op with | .shl | .shr | .add | .sub | .mul | .quo | .rem | .and | .or | .xor | .andNot => false | _ => true) :
    (execOp ρ ⟨d, .binOp op T x y T', ty, pos, af, gd⟩).run P w = .ok (.value (.bool v)) w := by
  cases op <;> simp at hk <;> simp [execOp, hx, hy, go_sem, eqGuard, binOp, Op.intCmp] at hop ⊢ <;> simp_all [pure]
theorem x_arith {op : BinOp} {T T' : TypeId} {x y : Operand} {k : IntKind} {a b r : Int} (hx : ρ x = .int k a) (hy : ρ y = .int k b) (hop : ∀ w', (Op.intArith op k a b).run P w' = .ok (.int k r) w')
    (hk : match op with | .add | .sub | .mul => true | _ => false) :
    (execOp ρ ⟨d, .binOp op T x y T', ty, pos, af, gd⟩).run P w = .ok (.value (.int k r)) w := by
  have := hop w
  cases op <;> simp at hk <;> simp [Op.intArith, go_sem] at this <;> simp [execOp, hx, hy, go_sem, eqGuard, binOp, Op.intArith, this]
theorem x_not {T : TypeId} {x : Operand} {t : Bool} (hx : ρ x = .bool t) : (execOp ρ ⟨d, .unOp .not T x, ty, pos, af, gd⟩).run P w = .ok (.value (.bool !t)) w := by
  simp [execOp, hx, go_sem, Op.unary]
theorem x_neg {T : TypeId} {x : Operand} {k : IntKind} {a : Int} (hx : ρ x = .int k a) : (execOp ρ ⟨d, .unOp .neg T x, ty, pos, af, gd⟩).run P w = .ok (.value (.int k (k.wrap (0 - a)))) w := by
  simp [execOp, hx, go_sem, Op.unary, Op.intArith]
theorem x_conv {S T : TypeId} {x : Operand} {k k' : IntKind} {a : Int} {ds : TypeDesc} (hS : P.underlying S = some ds) (hT : P.underlying T = some (.int k)) (hx : ρ x = .int k' a) :
    (execOp ρ ⟨d, .convert S T x, ty, pos, af, gd⟩).run P w = .ok (.value (.int k (k.wrap a))) w := by
  simp [execOp, hx, go_sem, convert, underlying, hS, hT, Conv.intToInt]
theorem equal_bool {T : TypeId} {a b : Bool} (hT : P.underlying T = some .bool) : (Op.equal T (.bool a) (.bool b)).run P w = .ok (a == b) w := by
  unfold Op.equal Op.maxDepth Op.equalIn
  simp [underlying, hT, go_sem]
theorem equal_ptr_nil {T e : TypeId} {a : Option Addr} (hT : P.underlying T = some (.pointer e)) : (Op.equal T (.pointer a) (.pointer none)).run P w = .ok a.isNone w := by
  unfold Op.equal Op.maxDepth Op.equalIn
  cases a <;> simp [underlying, hT, go_sem]
theorem x_eqlB {T T' : TypeId} {x y : Operand} {a b : Bool} (hT : P.underlying T = some .bool) (hx : ρ x = .bool a) (hy : ρ y = .bool b) :
    (execOp ρ ⟨d, .binOp .eql T x y T', ty, pos, af, gd⟩).run P w = .ok (.value (.bool (a == b))) w := by
  have := equal_bool (P := P) (w := w) (a := a) (b := b) hT
  simp [execOp, hx, hy, go_sem, eqGuard, binOp, this]
theorem x_neqB {T T' : TypeId} {x y : Operand} {a b : Bool} (hT : P.underlying T = some .bool) (hx : ρ x = .bool a) (hy : ρ y = .bool b) :
    (execOp ρ ⟨d, .binOp .neq T x y T', ty, pos, af, gd⟩).run P w = .ok (.value (.bool (!(a == b)))) w := by
  have := equal_bool (P := P) (w := w) (a := a) (b := b) hT
  simp [execOp, hx, hy, go_sem, eqGuard, binOp, this]
theorem x_eqlS {T T' : TypeId} {x y : Operand} {a b : ByteArray} (hx : ρ x = .string a) (hy : ρ y = .string b) :
    (execOp ρ ⟨d, .binOp .eql T x y T', ty, pos, af, gd⟩).run P w = .ok (.value (.bool (a.toList == b.toList))) w := by
  simp [execOp, hx, hy, go_sem, eqGuard, binOp, Op.stringOp]
theorem x_neqS {T T' : TypeId} {x y : Operand} {a b : ByteArray} (hx : ρ x = .string a) (hy : ρ y = .string b) :
    (execOp ρ ⟨d, .binOp .neq T x y T', ty, pos, af, gd⟩).run P w = .ok (.value (.bool (!(a.toList == b.toList)))) w := by
  simp [execOp, hx, hy, go_sem, eqGuard, binOp, Op.stringOp]
/-- A pointer against nil. -/
theorem x_eqlNil {T T' e : TypeId} {x y : Operand} {a : Option Addr} (hT : P.underlying T = some (.pointer e)) (hx : ρ x = .pointer a) (hy : ρ y = .pointer none) :
    (execOp ρ ⟨d, .binOp .eql T x y T', ty, pos, af, gd⟩).run P w = .ok (.value (.bool a.isNone)) w := by
  have := equal_ptr_nil (P := P) (w := w) (a := a) hT
  simp [execOp, hx, hy, go_sem, eqGuard, binOp, this]
theorem x_neqNil {T T' e : TypeId} {x y : Operand} {a : Option Addr} (hT : P.underlying T = some (.pointer e)) (hx : ρ x = .pointer a) (hy : ρ y = .pointer none) :
    (execOp ρ ⟨d, .binOp .neq T x y T', ty, pos, af, gd⟩).run P w = .ok (.value (.bool (!a.isNone))) w := by
  have := equal_ptr_nil (P := P) (w := w) (a := a) hT
  simp [execOp, hx, hy, go_sem, eqGuard, binOp, this]

/-- What '==' says at a type whose values are encoded. -/
def EqLaw {α : Type} [DecidableEq α] (P : Program) (T : TypeId) (enc : α → Value) : Prop :=
  ∀ a b w, (Op.equal T (enc a) (enc b)).run P w = .ok (decide (a = b)) w
theorem x_eqlE {α : Type} [DecidableEq α] {enc : α → Value} {T T' : TypeId} {x y : Operand} {a b : α} {xs ys : Array Value} (hq : EqLaw P T enc) (hg : P.eqGuardType P.depth T = false) (ha : enc a = .agg xs) (hb : enc b = .agg ys) (hx : ρ x = enc a) (hy : ρ y = enc b) :
    (execOp ρ ⟨d, .binOp .eql T x y T', ty, pos, af, gd⟩).run P w = .ok (.value (.bool (decide (a = b)))) w := by
  have := hq a b w
  rw [ha, hb] at this
  simp [execOp, hx, hy, ha, hb, go_sem, eqGuard, binOp, hg, this]
theorem x_neqE {α : Type} [DecidableEq α] {enc : α → Value} {T T' : TypeId} {x y : Operand} {a b : α} {xs ys : Array Value} (hq : EqLaw P T enc) (hg : P.eqGuardType P.depth T = false) (ha : enc a = .agg xs) (hb : enc b = .agg ys) (hx : ρ x = enc a) (hy : ρ y = enc b) :
    (execOp ρ ⟨d, .binOp .neq T x y T', ty, pos, af, gd⟩).run P w = .ok (.value (.bool (!decide (a = b)))) w := by
  have := hq a b w
  rw [ha, hb] at this
  simp [execOp, hx, hy, ha, hb, go_sem, eqGuard, binOp, hg, this]

/-! slices and strings -/
theorem x_lenSl {T : TypeId} {x : Operand} {a : Option Addr} {n c : Nat} {e : TypeId} (hT : P.underlying T = some (.slice e)) (hx : ρ x = .slice a n c) :
    (execOp ρ ⟨d, .call ⟨.builtin .len, #[x], #[T]⟩, ty, pos, af, gd⟩).run P w = .ok (.value (.int .i64 n)) w := by
  simp [execOp, go_sem, builtin, Builtin.len_, hx, underlying, hT, goInt]
theorem x_lenStr {T : TypeId} {x : Operand} {s : ByteArray} (hT : P.underlying T = some .string) (hx : ρ x = .string s) :
    (execOp ρ ⟨d, .call ⟨.builtin .len, #[x], #[T]⟩, ty, pos, af, gd⟩).run P w = .ok (.value (.int .i64 s.size)) w := by
  simp [execOp, go_sem, builtin, Builtin.len_, hx, underlying, hT, goInt]
theorem x_lenMap {T kt et : TypeId} {x : Operand} {b : Nat} {es : Array MapEntry} {clock : Nat} (hT : P.underlying T = some (.map kt et)) (hx : ρ x = .map (some b)) (hb : w.heap[b]? = some (.map es clock)) :
    (execOp ρ ⟨d, .call ⟨.builtin .len, #[x], #[T]⟩, ty, pos, af, gd⟩).run P w = .ok (.value (.int .i64 es.size)) w := by
  simp [execOp, go_sem, builtin, Builtin.len_, hx, underlying, hT, goInt, getObj, hb, Sem.run]
theorem x_indexSl {T e : TypeId} {x y : Operand} {b off n c m : Nat} {i : Int} {k : IntKind} (hT : P.underlying T = some (.slice e)) (hm : Sz P e m) (hx : ρ x = .slice (some ⟨b, off, none⟩) n c) (hy : ρ y = .int k i) (h0 : 0 ≤ i) (h1 : i < n) :
    (execOp ρ ⟨d, .indexAddr T x y, ty, pos, af, gd⟩).run P w = .ok (.value (.pointer (some ⟨b, off + i.toNat * m, none⟩))) w := by
  simp [execOp, Instr.indexAt, hx, hy, asIntOf, go_sem, underlying, hT, hm w, h0, h1, add_off]
theorem x_indexStr {T : TypeId} {x y : Operand} {s : ByteArray} {i : Int} {k : IntKind} {c : UInt8} (hT : P.underlying T = some .string) (hx : ρ x = .string s) (hy : ρ y = .int k i) (h0 : 0 ≤ i) (h1 : s[i.toNat]? = some c) :
    (execOp ρ ⟨d, .index T x y, ty, pos, af, gd⟩).run P w = .ok (.value (.int .u8 c.toNat)) w := by
  simp [execOp, Instr.index, hx, hy, asIntOf, go_sem, underlying, hT, h0, h1]
theorem x_makeFunc {k : FuncId} {xs ys : List Operand} {vx vy : List Value} (hx : xs.map ρ = vx) (hy : ys.map ρ = vy) : (execOp ρ ⟨d, .makeFunc (.func k) xs.toArray ys.toArray, ty, pos, af, gd⟩).run P w = .ok (.value (.func (.func k) vx.toArray vy.toArray)) w := by
  subst hx; subst hy
  simp [execOp, go_sem]
end quiet
end Go.Tw
