/- What each kind of effect comes to, in the logic of assertions. Nothing here speaks of a program. -/
import Derived.Test.YtfoginganpgmcaaGreatCoreD
set_option linter.unusedSimpArgs false
set_option linter.unusedVariables false
namespace Go.Tw
open Go

section
variable {P : Program} {N : Nat} {Q : FPost} {f : Fr} {w : World} {ops : Array Oper} {rest : List Oper} {o : Oper}

/-- An effect, one behind the other. -/
theorem wpO_eff_ (hg : Region.wanted o (yieldF ops f) = true) (h : EffAt P o f w fun v w' => wpO P N ops Q rest (updO f o.dst v) w') : wpO P N ops Q (o :: rest) f w := by
  unfold EffAt runF at h
  split at h
  · rename_i e; exact wpO_val_ hg e h
  · rename_i e; exact wpO_unit_ hg e h
  · rename_i e; exact wpO_call_ hg e h
  · exact h.elim

theorem wpO_eff {d : Nat} {op : Op} {ty : TypeId} {pos : String} {af : Array Edge} {gd : Option (Nat × Bool)} (hg : Region.wanted ⟨some d, op, ty, pos, af, gd⟩ (yieldF ops f) = true)
    (h : EffAt P ⟨some d, op, ty, pos, af, gd⟩ f w fun v w' => wpO P N ops Q rest (upd f d v) w') : wpO P N ops Q (⟨some d, op, ty, pos, af, gd⟩ :: rest) f w := wpO_eff_ hg h
theorem wpO_eff0 {op : Op} {ty : TypeId} {pos : String} {af : Array Edge} {gd : Option (Nat × Bool)} (hg : Region.wanted ⟨none, op, ty, pos, af, gd⟩ (yieldF ops f) = true)
    (h : EffAt P ⟨none, op, ty, pos, af, gd⟩ f w fun _ w' => wpO P N ops Q rest f w') : wpO P N ops Q (⟨none, op, ty, pos, af, gd⟩ :: rest) f w := wpO_eff_ hg h

variable {d : Option Nat} {ty : TypeId} {pos : String} {af : Array Edge} {gd : Option (Nat × Bool)} {R : Value → World → Prop} {c : Cx} {g : Heap} {L F : List Asn}

theorem e_val {v : Value} {w' : World} (hr : (execOp (ev f) o).run P w = .ok (.value v) w') (k : R v w') : EffAt P o f w R := by
  unfold EffAt runF; rw [hr]; exact k
theorem e_unit {w' : World} (hr : (execOp (ev f) o).run P w = .ok .skip w') (k : R undef w') : EffAt P o f w R := by
  unfold EffAt runF; rw [hr]; exact k

theorem e_alloc {T : TypeId} {v : Value} (H : Holds c g w (L ++ F)) (hz : Zr P T v) (k : ∀ b w', Holds c g w' ((L ++ [pt b (.cells v.cells T)]) ++ F) → R (.pointer (some ⟨b, 0, none⟩)) w') :
    EffAt P ⟨d, .alloc T, ty, pos, af, gd⟩ f w R := by
  refine e_val (v := .pointer (some ⟨w.heap.size, 0, none⟩)) (w' := { w with heap := w.heap.push (.cells v.cells T) }) ?_ (k _ _ (H.allocF _))
  have := hz w
  simp [execOp, Instr.alloc, go_sem, this]

theorem e_box {T : TypeId} {x : Operand} {v : Value} (H : Holds c g w (L ++ F)) (hx : ev f x = v) (k : ∀ b w', Holds c g w' ((L ++ [pt b (.cells v.cells T)]) ++ F) → R (.pointer (some ⟨b, 0, none⟩)) w') :
    EffAt P ⟨d, .box T x, ty, pos, af, gd⟩ f w R := by
  subst hx
  refine e_val (v := .pointer (some ⟨w.heap.size, 0, none⟩)) (w' := { w with heap := w.heap.push (.cells (ev f x).cells T) }) ?_ (k _ _ (H.allocF _))
  simp [execOp, Instr.box, go_sem]

theorem e_boxI {T : TypeId} {x : Operand} {ik : IntKind} {n : Int} (H : Holds c g w (L ++ F)) (hx : ev f x = .int ik n) (k : ∀ b w', Holds c g w' ((L ++ [pt b (.cells #[.int ik n] T)]) ++ F) → R (.pointer (some ⟨b, 0, none⟩)) w') :
    EffAt P ⟨d, .box T x, ty, pos, af, gd⟩ f w R := e_box H hx k
theorem e_boxB {T : TypeId} {x : Operand} {t : Bool} (H : Holds c g w (L ++ F)) (hx : ev f x = .bool t) (k : ∀ b w', Holds c g w' ((L ++ [pt b (.cells #[.bool t] T)]) ++ F) → R (.pointer (some ⟨b, 0, none⟩)) w') :
    EffAt P ⟨d, .box T x, ty, pos, af, gd⟩ f w R := e_box H hx k
theorem e_boxS {T : TypeId} {x : Operand} {s : ByteArray} (H : Holds c g w (L ++ F)) (hx : ev f x = .string s) (k : ∀ b w', Holds c g w' ((L ++ [pt b (.cells #[.string s] T)]) ++ F) → R (.pointer (some ⟨b, 0, none⟩)) w') :
    EffAt P ⟨d, .box T x, ty, pos, af, gd⟩ f w R := e_box H hx k
theorem e_boxL {T : TypeId} {x : Operand} {sa : Option Addr} {n cp : Nat} (H : Holds c g w (L ++ F)) (hx : ev f x = .slice sa n cp) (k : ∀ b w', Holds c g w' ((L ++ [pt b (.cells #[.slice sa n cp] T)]) ++ F) → R (.pointer (some ⟨b, 0, none⟩)) w') :
    EffAt P ⟨d, .box T x, ty, pos, af, gd⟩ f w R := e_box H hx k
theorem e_boxP {T : TypeId} {x : Operand} {p : Option Addr} (H : Holds c g w (L ++ F)) (hx : ev f x = .pointer p) (k : ∀ b w', Holds c g w' ((L ++ [pt b (.cells #[.pointer p] T)]) ++ F) → R (.pointer (some ⟨b, 0, none⟩)) w') :
    EffAt P ⟨d, .box T x, ty, pos, af, gd⟩ f w R := e_box H hx k
theorem e_boxM {T : TypeId} {x : Operand} {m : Option Nat} (H : Holds c g w (L ++ F)) (hx : ev f x = .map m) (k : ∀ b w', Holds c g w' ((L ++ [pt b (.cells #[.map m] T)]) ++ F) → R (.pointer (some ⟨b, 0, none⟩)) w') :
    EffAt P ⟨d, .box T x, ty, pos, af, gd⟩ f w R := e_box H hx k
theorem e_boxA {T : TypeId} {x : Operand} {cs : Array Value} (H : Holds c g w (L ++ F)) (hx : ev f x = .agg cs) (k : ∀ b w', Holds c g w' ((L ++ [pt b (.cells cs T)]) ++ F) → R (.pointer (some ⟨b, 0, none⟩)) w') :
    EffAt P ⟨d, .box T x, ty, pos, af, gd⟩ f w R := e_box H hx k
theorem e_makeMap {T : TypeId} (H : Holds c g w (L ++ F)) (k : ∀ b w', Holds c g w' ((L ++ [pt b (.map #[] 0)]) ++ F) → R (.map (some b)) w') : EffAt P ⟨d, .makeMap T none, ty, pos, af, gd⟩ f w R := by
  refine e_val (v := .map (some w.heap.size)) (w' := { w with heap := w.heap.push (.map #[] 0) }) ?_ (k _ _ (H.allocF _))
  rfl

/-! a store -/

def setMany (cs : Array Value) (off : Nat) : List Value → Array Value
  | [] => cs
  | v :: r => setMany (cs.setIfInBounds off v) (off + 1) r

theorem setMany_size (cs : Array Value) : ∀ (l : List Value) (off : Nat) , (setMany cs off l).size = cs.size := by
  intro l
  induction l generalizing cs with
  | nil => intro off; rfl
  | cons v r ih => intro off; simp [setMany, ih]

theorem run_storeCells {b : Nat} {E : TypeId} : ∀ (l : List Value) (off i : Nat) (cs : Array Value) (w : World) (L : List Asn), Holds c g w (pt b (.cells cs E) :: L) → off + i + l.length ≤ cs.size → l.all oneCell = true →
    ∃ w', (storeCells ⟨b, off, none⟩ l i).run P w = .ok () w' ∧ Holds c g w' (pt b (.cells (setMany cs (off + i) l) E) :: L)
  | [], off, i, cs, w, L, H, _, _ => ⟨w, by simp [storeCells, go_sem], H⟩
  | v :: r, off, i, cs, w, L, H, h, ho => by
    have hb := H.head
    simp only [List.length_cons] at h
    have hc : w.cell? ⟨b, off + i, none⟩ = some cs[off + i] := by rw [cell_of hb]; simp
    have hfz : w.frozen? ⟨b, off + i, none⟩ = false := by simp [World.frozen?, hb]
    simp only [List.all_cons, Bool.and_eq_true] at ho
    obtain ⟨w', hr, H'⟩ := run_storeCells r off (i + 1) _ _ L (H.setCell (off + i) v) (by simp; omega) ho.2
    refine ⟨w', ?_, H'⟩
    rw [← hr]
    simp only [storeCells, add_off, store, bind, Sem.bind]
    cases v <;> simp [oneCell] at ho <;> simp [Sem.run, hc, hfz]

theorem setMany_all : ∀ (l : List Value) (cs : Array Value) (off : Nat), off + l.length = cs.size → setMany cs off l = cs.extract 0 off ++ l.toArray
  | [], cs, off, h => by
    simp at h
    subst h
    simp [setMany]
  | v :: r, cs, off, h => by
    simp only [setMany]
    simp only [List.length_cons] at h
    rw [setMany_all r _ (off + 1) (by simp; omega)]
    apply Array.ext
    · simp; omega
    · intro j h1 h2
      simp only [Array.getElem_append, Array.size_extract, Array.getElem_extract, Array.size_setIfInBounds]
      by_cases hj : j < off
      · rw [dif_pos (by omega), dif_pos (by omega)]
        rw [Array.getElem_setIfInBounds]
        rw [if_neg (by omega)]
      · by_cases hj2 : j = off
        · subst hj2
          rw [dif_pos (by omega), dif_neg (by omega)]
          have : j - min j cs.size = 0 := by omega
          simp [this]
        · rw [dif_neg (by omega), dif_neg (by omega)]
          simp only [List.getElem_toArray]
          rw [List.getElem_cons]
          rw [dif_neg (by omega)]
          congr 1
          omega

/-- A slice's literal. -/
theorem setMany_append (cs : Array Value) : ∀ (l l' : List Value) (off : Nat), setMany (setMany cs off l) (off + l.length) l' = setMany cs off (l ++ l') := by
  intro l
  induction l generalizing cs with
  | nil => intro l' off; rfl
  | cons v r ih =>
    intro l' off
    simp only [setMany, List.cons_append, List.length_cons]
    rw [← ih]
    congr 1
    omega
theorem foldl_setMany (off : Nat) : ∀ (l : List Value) (k : Nat) (cs : Array Value), (l.zipIdx k).foldl (fun cs (x : Value × Nat) => cs.setIfInBounds (off + x.2) x.1) cs = setMany cs (off + k) l
  | [], k, cs => rfl
  | v :: r, k, cs => by
    simp only [List.zipIdx_cons, List.foldl_cons, setMany]
    rw [foldl_setMany off r (k + 1)]
    rfl
theorem fill_row (m : Nat) : ∀ (vs : List Value) (i : Nat) (cs : Array Value), (i + vs.length) * m ≤ cs.size → (∀ v ∈ vs, v.cells.size = m) →
    Instr.fill (fun i => some (i * m, m)) cs ((List.range' i vs.length).zip vs) = some (setMany cs (i * m) (vs.flatMap fun v => v.cells.toList))
  | [], i, cs, h, _ => rfl
  | v :: r, i, cs, h, hv => by
    have h1 : v.cells.size = m := hv v (by simp)
    have h2 : (i + (r.length + 1)) * m = i * m + m + r.length * m := by
      rw [Nat.add_mul, Nat.add_mul]; omega
    simp only [List.length_cons] at h
    have h3 : ¬ (v.cells.size ≠ m ∨ i * m + v.cells.size > cs.size) := by omega
    simp only [List.length_cons, List.range'_succ, List.zip_cons_cons, Instr.fill]
    rw [if_neg (by simpa using h3)]
    have e : (v.cells.zipIdx.foldl (fun cs (x : Value × Nat) => cs.setIfInBounds (i * m + x.2) x.1) cs) = setMany cs (i * m) v.cells.toList := by
      rw [← Array.foldl_toList, Array.toList_zipIdx, foldl_setMany]
      rfl
    have h5 : (i + 1 + r.length) * m = (i + (r.length + 1)) * m := by congr 1; omega
    have h4 := fill_row m r (i + 1) (setMany cs (i * m) v.cells.toList) (by rw [setMany_size]; omega) (fun v hv' => hv v (by simp [hv']))
    refine Eq.trans ?_ (h4.trans ?_)
    · rw [← e]
    · rw [List.flatMap_cons, ← setMany_append]
      congr 2
      rw [Array.length_toList, h1, Nat.add_mul]
      omega

theorem e_buildSlice {T e : TypeId} {n m : Nat} {parts : Array (Nat × Operand)} {z : Value} {vs cs : List Value} (H : Holds c g w (L ++ F)) (hT : P.underlying T = some (.slice e)) (hm : Sz P e m) (hz : Zr P e z) (hb : Nat.ble (n * m) (2 ^ 24) = true)
    (hp : parts.toList.map (·.1) = List.range n) (hv : parts.toList.map (fun p => ev f p.2) = vs) (hs : vs.all (fun v => v.cells.size == m) = true) (hcs : vs.flatMap (fun v => v.cells.toList) = cs)
    (k : ∀ b w', Holds c g w' ((L ++ [pt b (.cells cs.toArray e)]) ++ F) → R (.slice (some ⟨b, 0, none⟩) n n) w') : EffAt P ⟨d, .buildSlice T n parts, ty, pos, af, gd⟩ f w R := by
  refine e_val (v := .slice (some ⟨w.heap.size, 0, none⟩) n n) (w' := { w with heap := w.heap.push (.cells cs.toArray e) }) ?_ (k _ _ (H.allocF _))
  have hz' := hz w
  have hm' := hm w
  have hb' : ¬ 2 ^ 24 < n * m := Nat.not_lt.2 (Nat.le_of_ble_eq_true hb)
  have hlen : vs.length = n := by rw [← hv, List.length_map, ← List.length_map (f := (·.1)), hp, List.length_range]
  have hsz : ∀ v ∈ vs, v.cells.size = m := by
    intro v h
    have := List.all_eq_true.1 hs v h
    simpa using this
  have h1 : (parts.map fun (p : Nat × Operand) => (p.1, ev f p.2)).toList = (List.range' 0 vs.length).zip vs := by
    rw [Array.toList_map, hlen, ← List.range_eq_range', ← hp, ← hv, List.zip_map', ]
  have hfl : (vs.flatMap fun v => v.cells.toList).length = n * m := by
    rw [← hlen]
    clear hv h1 hlen hcs hs
    induction vs with
    | nil => simp
    | cons v r ih =>
      rw [List.flatMap_cons, List.length_append, ih (fun v h => hsz v (by simp [h])), Array.length_toList, hsz v (by simp), List.length_cons, Nat.add_mul]
      omega
  have hfill : ∀ cells : Array Value, cells.size = n * m → Instr.fill (fun i => some (i * m, m)) cells (parts.map fun (p : Nat × Operand) => (p.1, ev f p.2)).toList = some cs.toArray := by
    intro cells hc
    rw [h1, fill_row m vs 0 cells (by rw [hlen, hc]; simp) hsz, Nat.zero_mul, setMany_all _ _ _ (by rw [hfl, hc]; simp), hcs]
    simp
  have h0 := hfill ((Array.range (n * m)).map (z.cells[· % z.cells.size]!)) (by simp)
  have h00 := hfill ((Array.range (n * m)).map ((#[] : Array Value)[· % (#[] : Array Value).size]!)) (by simp)
  unfold Value.cells at h0
  by_cases hnm : n * m = 0
  · have h00' : Instr.fill (fun i => some (i * m, m)) #[] (parts.map fun (p : Nat × Operand) => (p.1, ev f p.2)).toList = some cs.toArray := hfill #[] (by simp [hnm])
    simp [execOp, Instr.buildSlice, go_sem, underlying, hT, hm', newRow, hz', -Nat.reducePow, hnm] at h00' ⊢
    simp [h00', go_sem]
  · simp [execOp, Instr.buildSlice, go_sem, underlying, hT, hm', newRow, hnm, hz', -Nat.reducePow, hb'] at h0 ⊢
    simp [h0, go_sem]

theorem e_store {T : TypeId} {x y : Operand} {b off n : Nat} {cs : Array Value} {E : TypeId} {v : Value} (H : Holds c g w (L ++ F)) (i : Nat) (hi : L[i]? = some (pt b (.cells cs E))) (hn : Sz P T n) (hx : ev f x = .pointer (some ⟨b, off, none⟩)) (hy : ev f y = v)
    (h1 : v.cells.size = n) (h2 : Nat.ble (off + n) cs.size = true) (h3 : v.cells.toList.all oneCell = true) (k : ∀ w', Holds c g w' (L.set i (pt b (.cells (setMany cs off v.cells.toList) E)) ++ F) → R undef w') :
    EffAt P ⟨d, .store T x y, ty, pos, af, gd⟩ f w R := by
  have h2 := Nat.le_of_ble_eq_true h2
  obtain ⟨w', hr, H'⟩ := run_storeCells (P := P) v.cells.toList off 0 cs w _ (H.focusF i hi) (by simp; omega) h3
  refine e_unit (w' := w') ?_ (k _ (Holds.unfocusF hi H'))
  have hn' := hn w
  unfold Value.cells at h1 hr
  simp [execOp, Instr.storeAt, Instr.sureAddr, storeVar, hx, hy, hn', go_sem, h1, hr]

/-- .. over a whole variable. -/
theorem e_storeAll {T : TypeId} {x y : Operand} {b n : Nat} {cs : Array Value} {E : TypeId} {v : Value} (H : Holds c g w (L ++ F)) (i : Nat) (hi : L[i]? = some (pt b (.cells cs E))) (hn : Sz P T n) (hx : ev f x = .pointer (some ⟨b, 0, none⟩)) (hy : ev f y = v)
    (h1 : v.cells.size = n) (h2 : cs.size = n) (h3 : v.cells.toList.all oneCell = true) (k : ∀ w', Holds c g w' (L.set i (pt b (.cells v.cells E)) ++ F) → R undef w') :
    EffAt P ⟨d, .store T x y, ty, pos, af, gd⟩ f w R := by
  refine e_store H i hi hn hx hy h1 (by rw [h2]; simp) h3 fun w' H' => k w' ?_
  rw [setMany_all _ _ _ (by simp; omega)] at H'
  simpa using H'

/-! a call -/
theorem e_call {x : Operand} {as : List Operand} {tys : Array TypeId} {k : FuncId} {fi ca : Array Value} {vs : List Value} (hx : ev f x = .func (.func k) fi ca) (hk : ∀ args w, (callFunc k args).run P w = .ok (.enter k args) w)
    (hv : fi.toList ++ (as.map (ev f) ++ ca.toList) = vs) (h : Calls P k vs.toArray w (Ret R)) : EffAt P ⟨d, .call ⟨.value x, as.toArray, tys⟩, ty, pos, af, gd⟩ f w R := by
  have hr : runF P ⟨d, .call ⟨.value x, as.toArray, tys⟩, ty, pos, af, gd⟩ f w = .ok (.enter k vs.toArray) w := by
    have e : (fi ++ (as.toArray.map (ev f)) ++ ca) = vs.toArray := by
      apply Array.ext'
      simp [← hv]
    have hxx : (do let dd ← resolve (ev f) ⟨.value x, as.toArray, tys⟩ ty; invoke dd.target dd.args : Sem Next).run P w = .ok (.enter k vs.toArray) w := by
      simp only [resolve, hx, Deferred.ofValue, pure_bind, invoke, e]
      exact hk _ _
    exact hxx
  unfold EffAt
  rw [hr]
  exact h

theorem e_callF {k : FuncId} {as : List Operand} {tys : Array TypeId} {vs : List Value} (hk : ∀ args w, (callFunc k args).run P w = .ok (.enter k args) w)
    (hv : as.map (ev f) = vs) (h : Calls P k vs.toArray w (Ret R)) : EffAt P ⟨d, .call ⟨.value (.func k), as.toArray, tys⟩, ty, pos, af, gd⟩ f w R :=
  e_call (fi := #[]) (ca := #[]) rfl hk (by simpa using hv) h
end
/-! what stands, whatever else does -/
def Has (c : Cx) (w : World) (L : List Asn) : Prop := ∃ g F, Holds c g w (L ++ F)
theorem Has.get {c : Cx} {w : World} {L : List Asn} {b : Nat} {o : Obj} (h : Has c w L) (i : Nat) (hi : L[i]? = some (pt b o)) : w.heap[b]? = some o := let ⟨_, _, H⟩ := h; H.getF i hi
theorem Holds.has {c : Cx} {g : Heap} {w : World} {L F : List Asn} (H : Holds c g w (L ++ F)) : Has c w L := ⟨g, F, H⟩

/-! a function's end -/
section
variable {P : Program} {fn : Func} {R : Value → World → Prop} {f : Fr} {w : World}
theorem end_0 (hr : fn.results = #[]) (h : R (.tuple #[]) w) : endF P fn R .ret f w := ⟨_, fun tmps _ => by simp [results, hr], h⟩
theorem endn_0 (hr : fn.results = #[]) (h : R (.tuple #[]) w) : endF P fn R .normal f w := ⟨_, fun tmps _ => by simp [results, hr], h⟩
theorem end_t {t : Nat} {v : Value} (hr : fn.results = #[.tmp t]) (hv : f t = v) (h : R v w) : endF P fn R .ret f w := ⟨v, fun tmps ht => by rw [results_tmp hr, ht, hv], h⟩
theorem end_tt {t u : Nat} {x y : Value} (hr : fn.results = #[.tmp t, .tmp u]) (hx : f t = x) (hy : f u = y) (h : R (.tuple #[x, y]) w) : endF P fn R .ret f w :=
  ⟨_, fun tmps ht => by rw [results_tmp2 hr, ht, ht, hx, hy], h⟩
theorem end_ttt {t u s : Nat} {x y z : Value} (hr : fn.results = #[.tmp t, .tmp u, .tmp s]) (hx : f t = x) (hy : f u = y) (hz : f s = z) (h : R (.tuple #[x, y, z]) w) : endF P fn R .ret f w :=
  ⟨_, fun tmps ht => by have h1 := ht t; have h2 := ht u; have h3 := ht s; simp at h1 h2 h3; simp [results, hr, h1, h2, h3, hx, hy, hz], h⟩
theorem run_loadVar1 {T : TypeId} {b n : Nat} {cs : Array Value} {E : TypeId} {z : Nat × Nat} (hA : Ag P T true) (hn : Sz P T n) (hb : w.heap[b]? = some (.cells cs E z)) (h : cs.size = n) :
    (loadVar T ⟨b, 0, none⟩).run P w = .ok (.agg cs) w := by
  have := run_loadCellsFrom (P := P) hb 0 n 0 #[] (by omega)
  have h1 := hA w
  have h2 := hn w
  have e : cs.extract 0 n = cs := by subst h; simp
  simp only [loadVar, Sem.run_bind, h1, h2, Result.andThen_ok, if_true, loadCells, this, Sem.run_pure]
  simp [e]
theorem end_c {a b n : Nat} {T : TypeId} {cs : Array Value} {E : TypeId} {z : Nat × Nat} (hr : fn.results = #[.cell a T]) (ha : f a = .pointer (some ⟨b, 0, none⟩)) (hA : Ag P T true) (hn : Sz P T n) (hb : w.heap[b]? = some (.cells cs E z)) (hs : cs.size = n)
    (h : R (.agg cs) w) : endF P fn R .ret f w :=
  ⟨_, fun tmps ht => by have h1 := ht a; have h2 := run_loadVar1 hA hn hb hs; simp at h1; simp [results, hr, h1, ha, asAddr, h2], h⟩
theorem end_ct {a b n t : Nat} {T : TypeId} {x : Value} {cs : Array Value} {E : TypeId} {z : Nat × Nat} (hr : fn.results = #[.cell a T, .tmp t]) (ha : f a = .pointer (some ⟨b, 0, none⟩)) (hx : f t = x) (hA : Ag P T true) (hn : Sz P T n) (hb : w.heap[b]? = some (.cells cs E z)) (hs : cs.size = n)
    (h : R (.tuple #[.agg cs, x]) w) : endF P fn R .ret f w :=
  ⟨_, fun tmps ht => by have h1 := ht a; have h3 := ht t; have h2 := run_loadVar1 hA hn hb hs; simp at h1 h3; simp [results, hr, h1, h3, ha, hx, asAddr, h2], h⟩
end
end Go.Tw
