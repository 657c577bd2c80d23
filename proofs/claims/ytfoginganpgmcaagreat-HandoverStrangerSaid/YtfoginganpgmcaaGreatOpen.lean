/- Arguments that come in: what their cells are. -/
import Derived.Test.YtfoginganpgmcaaGreatActs
import Derived.ProofKit
import Derived.Deep.Slices
import Derived.Below
set_option linter.unusedSimpArgs false
set_option linter.unusedVariables false
namespace Go.Tw
open Go
section
variable {H : Type} (enc : TypeId × Value → H) (P : Program) (w : World)
/-- Whatever reads as of this type has such cells. -/
def Opens (t : TypeId) (R : List Value → Prop) : Prop := ∀ fuel cs x, DataW.trod enc P w 0 (fun _ => true) true fuel t cs = some x → R cs
/-- Fields one behind the other. -/
def Lay : List Field → Nat → List (Nat × (List Value → Prop)) → Prop
  | [], _, [] => True
  | f :: fs, o, (n, R) :: L => f.offset = o ∧ P.cellsOf f.type = n ∧ Opens enc P w f.type R ∧ Lay fs (o + n) L
  | _, _, _ => False
end
def Pieces : List (Nat × (List Value → Prop)) → List Value → Prop
  | [], cs => cs = []
  | (n, R) :: L, cs => ∃ p q, cs = p ++ q ∧ R p ∧ Pieces L q
def total : List (Nat × (List Value → Prop)) → Nat
  | [] => 0
  | (n, _) :: L => n + total L

section
variable {H : Type} {enc : TypeId × Value → H} {P : Program} {w : World}
theorem Opens.mono {t : TypeId} {R R' : List Value → Prop} (h : Opens enc P w t R) (hr : ∀ cs, R cs → R' cs) : Opens enc P w t R' := fun fuel cs x hx => hr cs (h fuel cs x hx)
theorem wf_ik {k : IntKind} {n : Int} (h : (Lit.int k n).wf = true) : k.min ≤ n ∧ n ≤ k.max := by
  simpa [Lit.wf] using h
theorem opens_int {t : TypeId} {k : IntKind} (ht : P.underlying t = some (.int k)) : Opens enc P w t (fun cs => ∃ i : IK k, cs = [i.v]) := fun fuel cs x h => by
  obtain ⟨n, hcs, _, hw⟩ := DataW.trod_int ht h
  exact ⟨⟨n, (wf_ik hw).1, (wf_ik hw).2⟩, hcs⟩
theorem opens_bool {t : TypeId} (ht : P.underlying t = some .bool) : Opens enc P w t (fun cs => ∃ b : Bool, cs = [.bool b]) := fun fuel cs x h => by
  obtain ⟨n, hcs, _⟩ := DataW.trod_bool ht h
  exact ⟨n, hcs⟩
theorem opens_str {t : TypeId} (ht : P.underlying t = some .string) : Opens enc P w t (fun cs => ∃ s : List UInt8, cs = [strV s]) := fun fuel cs x h => by
  obtain ⟨s, hcs, _⟩ := DataW.trod_string ht h
  exact ⟨s.data.toList, by rw [hcs]; simp [strV]⟩
theorem opens_raw {t e : TypeId} (ht : P.underlying t = some (.slice e)) : Opens enc P w t (fun cs => ∃ s : Sl, cs = [s.v]) := fun fuel cs x h => by
  rcases DataW.trod_slice ht h with ⟨hcs, _⟩ | ⟨a, len, cap, _, _, _, _, hcs, _⟩
  · exact ⟨Sl.nil, hcs⟩
  · exact ⟨⟨some a, len, cap⟩, hcs⟩
theorem lay_pieces {n : Nat} {cs : List Value} : ∀ {fs : List Field} {o : Nat} {L : List (Nat × (List Value → Prop))}, Lay enc P w fs o L →
    (∀ f ∈ fs, ∃ y, DataW.trod enc P w 0 (fun _ => true) true n f.type ((cs.drop f.offset).take (P.cellsOf f.type)) = some y) → cs.length = o + total L → Pieces L (cs.drop o)
  | [], o, [], _, _, hl => by simp [total] at hl; simp [Pieces, hl]
  | [], _, _ :: _, h, _, _ => h.elim
  | _ :: _, _, [], h, _, _ => h.elim
  | f :: fs, o, (m, R) :: L, ⟨h1, h2, h3, h4⟩, hf, hl => by
    obtain ⟨y, hy⟩ := hf f (by simp)
    rw [h1, h2] at hy
    refine ⟨(cs.drop o).take m, cs.drop (o + m), ?_, h3 _ _ _ hy, lay_pieces h4 (fun f hf' => hf f (by simp [hf'])) (by simp [total] at hl; omega)⟩
    rw [← List.drop_drop, List.take_append_drop]
theorem opens_struct {t : TypeId} {fs : Array Field} {L : List (Nat × (List Value → Prop))} (ht : P.underlying t = some (.struct fs)) (hN : P.cellsOf t = total L) (hL : Lay enc P w fs.toList 0 L) : Opens enc P w t (Pieces L) := fun fuel cs x h => by
  obtain ⟨xs, n, _, _, hl, hlen, hf⟩ := DataW.trod_struct ht h
  have := lay_pieces (n := n) (cs := cs) (o := 0) hL (fun f hf' => by
    obtain ⟨i, hi, rfl⟩ := List.getElem_of_mem hf'
    have h1 := hf i fs[i] (by simp at hi; simp [hi])
    have hi' : i < xs.length := by simp at hi; omega
    exact ⟨xs[i], by simpa [List.getElem?_eq_getElem hi'] using h1⟩) (by rw [hl, hN]; omega)
  simpa using this
theorem cells_block {n : Nat} {a : Addr} {cs' : List Value} (hn : 0 < n) (h : w.cells? 0 a n = some cs') : ∃ cs E z, w.heap[a.block]? = some (.cells cs E z) ∧ a.spot = none ∧ Nat.ble (a.off + n) cs.size = true ∧ (cs.extract a.off (a.off + n)).toList = cs' := by
  obtain ⟨_, hl, hc⟩ := World.cells?_some h
  have h0 := hc 0 hn
  have hget : ∀ i, i < n → ∃ v, cs'[i]? = some v := fun i hi => ⟨cs'[i], List.getElem?_eq_getElem (by omega)⟩
  have ha0 : a.add 0 = a := rfl
  rw [ha0] at h0
  obtain ⟨v0, hv0⟩ := hget 0 hn
  rw [hv0] at h0
  obtain ⟨b, off, sp⟩ := a
  unfold World.cell? at h0
  split at h0
  · rename_i cs E z hb
    split at h0
    · cases h0
    · rename_i hsp
      have hsp : sp = none := by simpa using hsp
      subst hsp
      have key : ∀ i, i < n → cs[off + i]? = cs'[i]? := fun i hi => by
        have h1 := hc i hi
        rw [add_off, cell_of hb] at h1
        exact h1
      have hle : off + n ≤ cs.size := by
        obtain ⟨v, hv⟩ := hget (n - 1) (by omega)
        have h1 := key (n - 1) (by omega)
        rw [hv] at h1
        have := (Array.getElem?_eq_some_iff.1 h1).1
        omega
      refine ⟨cs, E, z, hb, rfl, Nat.ble_eq_true_of_le hle, ?_⟩
      apply List.ext_getElem?
      intro i
      rw [Array.getElem?_toList, Array.getElem?_extract]
      by_cases hi : i < n
      · rw [if_pos (by show i < min (off + n) cs.size - off; omega)]; exact key i hi
      · rw [if_neg (by show ¬ i < min (off + n) cs.size - off; omega), List.getElem?_eq_none (by omega)]
  · cases h0
theorem opens_slice {α : Type} {cd : α → Value} {Q : α → Prop} {t e : TypeId} {m : Nat} (ht : P.underlying t = some (.slice e)) (hm : P.cellsOf e = m) (hp : 0 < m) (he : Opens enc P w e (fun cs => ∃ y, cs = (cd y).cells.toList ∧ Q y)) :
    Opens enc P w t (fun cs => ∃ (s : Sl) (xs : List α), cs = [s.v] ∧ SlR (fun b => w.heap[b]?) cd m s xs ∧ ∀ y ∈ xs, Q y) := fun fuel cs x h => by
  rcases Go.Deep.open_slice ht h with ⟨hcs, _⟩ | ⟨a, len, cap, m', n', D, Pl, hcs, _, hl, _, hm', _, hel⟩
  · exact ⟨Sl.nil, [], hcs, SlR.zero, fun _ h => by cases h⟩
  · have hm'' : m' = cap := by simpa using hm'
    subst hm''
    rw [hm] at hel
    have hch : ∀ i : Fin len, ∃ y : α, Q y ∧ w.cells? 0 (a.add (i.1 * m)) m = some (cd y).cells.toList := fun i => by
      obtain ⟨cs', h1, h2⟩ := hel i.1 (by have := i.2; omega)
      obtain ⟨y, rfl, hq⟩ := he _ _ _ h2
      exact ⟨y, hq, h1⟩
    have hadd : ∀ i : Nat, a.spot = none → a.add (i * m) = ⟨a.block, a.off + i * m, none⟩ := fun i hs => by
      obtain ⟨b, o, sp⟩ := a
      simp only at hs
      subst hs
      exact add_off b o (i * m)
    have hsp : 0 < len → a.spot = none := fun h0 => by
      obtain ⟨_, _, hc⟩ := hch ⟨0, h0⟩
      have : a.add (0 * m) = a := by rw [Nat.zero_mul]; rfl
      rw [this] at hc
      obtain ⟨_, _, _, _, hs, _⟩ := cells_block hp hc
      exact hs
    refine ⟨⟨some a, len, m'⟩, List.ofFn fun i => (hch i).choose, hcs, ⟨by simp, hl, ?_, fun h => by simp at h, ?_⟩, ?_⟩
    · intro a' h' h0
      cases h'
      exact hsp (by simpa using h0)
    · intro i x hi
      rw [List.getElem?_ofFn] at hi
      split at hi
      · rename_i hlt
        cases hi
        obtain ⟨_, hc⟩ := (hch ⟨i, hlt⟩).choose_spec
        generalize (hch ⟨i, hlt⟩).choose = yy at hc ⊢
        rw [hadd i (hsp (by omega))] at hc
        obtain ⟨cs2, E, z, hb, _, hle, hex⟩ := cells_block hp hc
        exact ⟨a, cs2, E, z, rfl, hb, hle, Array.ext' hex⟩
      · cases hi
    · intro y hy
      rw [List.mem_ofFn] at hy
      obtain ⟨i, rfl⟩ := hy
      exact (hch i).choose_spec.1
end
end Go.Tw
namespace Go.Proofs.YtfoginganpgmcaaGreat
open Go Go.Tw
set_option maxRecDepth 100000
section
variable {H : Type} {enc : TypeId × Value → H} {w : World}
abbrev RI (k : IntKind) : List Value → Prop := fun cs => ∃ i : IK k, cs = [i.v]
abbrev RB : List Value → Prop := fun cs => ∃ b : Bool, cs = [.bool b]
abbrev RS : List Value → Prop := fun cs => ∃ s : List UInt8, cs = [strV s]
abbrev RSl : List Value → Prop := fun cs => ∃ s : Sl, cs = [s.v]
abbrev RE {α : Type} (cd : α → Value) : List Value → Prop := fun cs => ∃ y : α, cs = (cd y).cells.toList
theorem o_u8 : Opens enc Tryz.prog w 5 (RI .u8) := opens_int Tryz.underlying5
theorem o_u16 : Opens enc Tryz.prog w 28 (RI .u16) := opens_int Tryz.underlying28
theorem o_u32 : Opens enc Tryz.prog w 29 (RI .u32) := opens_int Tryz.underlying29
theorem o_u64 : Opens enc Tryz.prog w 23 (RI .u64) := opens_int Tryz.underlying23
theorem o_int : Opens enc Tryz.prog w 3 (RI .i64) := opens_int Tryz.underlying3
theorem o_int64 : Opens enc Tryz.prog w 2 (RI .i64) := opens_int Tryz.underlying2
theorem o_status : Opens enc Tryz.prog w 32 (RI .u8) := opens_int Tryz.underlying32
theorem o_bool : Opens enc Tryz.prog w 4 RB := opens_bool Tryz.underlying4
theorem o_string : Opens enc Tryz.prog w 9 RS := opens_str Tryz.underlying9
theorem o_ticket : Opens enc Tryz.prog w 25 (RE Ticket.v) := (opens_struct Tryz.underlying25 (L := [(1, RI .u8), (1, RI .u64)]) (by kernel_rfl) ⟨rfl, by kernel_rfl, o_u8, rfl, by kernel_rfl, o_u64, trivial⟩).mono (by
  rintro _ ⟨_, _, rfl, ⟨a, rfl⟩, _, _, rfl, ⟨b, rfl⟩, rfl⟩
  exact ⟨⟨a, b⟩, rfl⟩)
theorem o_key : Opens enc Tryz.prog w 27 (RE Key.v) := (opens_struct Tryz.underlying27 (L := [(2, RE Ticket.v), (1, RI .u8)]) (by kernel_rfl) ⟨rfl, by kernel_rfl, o_ticket, rfl, by kernel_rfl, o_u8, trivial⟩).mono (by
  rintro _ ⟨_, _, rfl, ⟨a, rfl⟩, _, _, rfl, ⟨b, rfl⟩, rfl⟩
  exact ⟨⟨a, b⟩, rfl⟩)
theorem o_leg : Opens enc Tryz.prog w 31 (RE Leg.v) := (opens_struct Tryz.underlying31 (L := [(1, RI .u8), (1, RI .u16), (1, RI .u32)]) (by kernel_rfl) ⟨rfl, by kernel_rfl, o_u8, rfl, by kernel_rfl, o_u16, rfl, by kernel_rfl, o_u32, trivial⟩).mono (by
  rintro _ ⟨_, _, rfl, ⟨a, rfl⟩, _, _, rfl, ⟨b, rfl⟩, _, _, rfl, ⟨c, rfl⟩, rfl⟩
  exact ⟨⟨a, b, c⟩, rfl⟩)
theorem o_coupon : Opens enc Tryz.prog w 34 (RE Coupon.v) := (opens_struct Tryz.underlying34 (L := [(3, RE Leg.v), (1, RI .i64), (1, RI .u8), (1, RI .u32)]) (by kernel_rfl) ⟨rfl, by kernel_rfl, o_leg, rfl, by kernel_rfl, o_int64, rfl, by kernel_rfl, o_status, rfl, by kernel_rfl, o_u32, trivial⟩).mono (by
  rintro _ ⟨_, _, rfl, ⟨a, rfl⟩, _, _, rfl, ⟨b, rfl⟩, _, _, rfl, ⟨c, rfl⟩, _, _, rfl, ⟨d, rfl⟩, rfl⟩
  exact ⟨⟨a, b, c, d⟩, rfl⟩)
theorem o_own : Opens enc Tryz.prog w 43 (RE Own.v) := (opens_struct Tryz.underlying43 (L := [(6, RE Coupon.v), (1, RB), (1, RI .u8), (1, RB), (1, RB)]) (by kernel_rfl) ⟨rfl, by kernel_rfl, o_coupon, rfl, by kernel_rfl, o_bool, rfl, by kernel_rfl, o_u8, rfl, by kernel_rfl, o_bool, rfl, by kernel_rfl, o_bool, trivial⟩).mono (by
  rintro _ ⟨_, _, rfl, ⟨a, rfl⟩, _, _, rfl, ⟨b, rfl⟩, _, _, rfl, ⟨c, rfl⟩, _, _, rfl, ⟨d, rfl⟩, _, _, rfl, ⟨e, rfl⟩, rfl⟩
  exact ⟨⟨a, b, c, d, e⟩, rfl⟩)
theorem o_held : Opens enc Tryz.prog w 64 (RE Held.v) := (opens_struct Tryz.underlying64 (L := [(6, RE Coupon.v), (1, RB), (1, RB), (1, RB), (1, RB)]) (by kernel_rfl) ⟨rfl, by kernel_rfl, o_coupon, rfl, by kernel_rfl, o_bool, rfl, by kernel_rfl, o_bool, rfl, by kernel_rfl, o_bool, rfl, by kernel_rfl, o_bool, trivial⟩).mono (by
  rintro _ ⟨_, _, rfl, ⟨a, rfl⟩, _, _, rfl, ⟨b, rfl⟩, _, _, rfl, ⟨c, rfl⟩, _, _, rfl, ⟨d, rfl⟩, _, _, rfl, ⟨e, rfl⟩, rfl⟩
  exact ⟨⟨a, b, c, d, e⟩, rfl⟩)
theorem o_tax : Opens enc Tryz.prog w 158 (RE Tax.v) := (opens_struct Tryz.underlying158 (L := [(1, RS), (1, RI .i64)]) (by kernel_rfl) ⟨rfl, by kernel_rfl, o_string, rfl, by kernel_rfl, o_int64, trivial⟩).mono (by
  rintro _ ⟨_, _, rfl, ⟨a, rfl⟩, _, _, rfl, ⟨b, rfl⟩, rfl⟩
  exact ⟨⟨a, b⟩, rfl⟩)
theorem o_raw : Opens enc Tryz.prog w 60 RSl := opens_raw Tryz.underlying60
abbrev RSlR (w : World) {α : Type} (cd : α → Value) (m : Nat) : List Value → Prop := fun cs => ∃ (s : Sl) (xs : List α), cs = [s.v] ∧ SlR (fun b => w.heap[b]?) cd m s xs ∧ ∀ y ∈ xs, True
theorem o_legs : Opens enc Tryz.prog w 56 (RSlR w Leg.v 3) := opens_slice Tryz.underlying56 (by kernel_rfl) (by decide) (o_leg.mono fun _ ⟨y, h⟩ => ⟨y, h, trivial⟩)
theorem o_taxes : Opens enc Tryz.prog w 57 (RSlR w Tax.v 2) := opens_slice Tryz.underlying57 (by kernel_rfl) (by decide) (o_tax.mono fun _ ⟨y, h⟩ => ⟨y, h, trivial⟩)
theorem o_vals : Opens enc Tryz.prog w 60 (RSlR w encI 1) := opens_slice Tryz.underlying60 (by kernel_rfl) (by decide) (o_int64.mono fun _ ⟨y, h⟩ => ⟨y.n, h, trivial⟩)
abbrev RSale (w : World) : List Value → Prop := fun cs => ∃ (s : SaleP) (legs : List Leg) (taxes : List Tax), cs = s.v.cells.toList ∧ SaleR (fun b => w.heap[b]?) s legs taxes
abbrev RDoc (w : World) : List Value → Prop := fun cs => ∃ (d : DocP) (legs : List Leg) (taxes : List Tax) (vals : List Int), cs = d.v.cells.toList ∧ DocR (fun b => w.heap[b]?) d legs taxes vals
theorem o_sale : Opens enc Tryz.prog w 59 (RSale w) := (opens_struct Tryz.underlying59 (L := [(1, RS), (1, RSlR w Leg.v 3), (1, RI .i64), (1, RSlR w Tax.v 2), (1, RI .i64)]) (by kernel_rfl) ⟨rfl, by kernel_rfl, o_string, rfl, by kernel_rfl, o_legs, rfl, by kernel_rfl, o_int64, rfl, by kernel_rfl, o_taxes, rfl, by kernel_rfl, o_int64, trivial⟩).mono (by
  rintro _ ⟨_, _, rfl, ⟨a, rfl⟩, _, _, rfl, ⟨b, bs, rfl, hb, _⟩, _, _, rfl, ⟨c, rfl⟩, _, _, rfl, ⟨d, ds, rfl, hd, _⟩, _, _, rfl, ⟨e, rfl⟩, rfl⟩
  exact ⟨⟨a, b, c, d, e⟩, bs, ds, rfl, hb, hd⟩)
theorem o_doc : Opens enc Tryz.prog w 62 (RDoc w) := (opens_struct Tryz.underlying62 (L := [(2, RE Ticket.v), (5, RSale w), (1, RSlR w encI 1), (2, RE Ticket.v), (2, RE Ticket.v), (1, RI .i64), (1, RI .i64), (1, RI .i64), (1, RI .i64), (1, RI .i64)]) (by kernel_rfl) ⟨rfl, by kernel_rfl, o_ticket, rfl, by kernel_rfl, o_sale, rfl, by kernel_rfl, o_vals, rfl, by kernel_rfl, o_ticket, rfl, by kernel_rfl, o_ticket, rfl, by kernel_rfl, o_int64, rfl, by kernel_rfl, o_int64, rfl, by kernel_rfl, o_int64, rfl, by kernel_rfl, o_int64, rfl, by kernel_rfl, o_int64, trivial⟩).mono (by
  rintro _ ⟨_, _, rfl, ⟨a, rfl⟩, _, _, rfl, ⟨b, bl, bt, rfl, hb⟩, _, _, rfl, ⟨c, cv, rfl, hc, _⟩, _, _, rfl, ⟨d, rfl⟩, _, _, rfl, ⟨e, rfl⟩, _, _, rfl, ⟨f, rfl⟩, _, _, rfl, ⟨g, rfl⟩, _, _, rfl, ⟨h, rfl⟩, _, _, rfl, ⟨i, rfl⟩, _, _, rfl, ⟨j, rfl⟩, rfl⟩
  exact ⟨⟨a, b, c, d, e, f, g, h, i, j⟩, bl, bt, cv, rfl, hb, hc⟩)
abbrev RAct (w : World) : List Value → Prop := fun cs => ∃ a : BAct, cs = a.v.cells.toList ∧ (∃ legs taxes, SaleR (fun b => w.heap[b]?) a.s legs taxes) ∧ ∃ legs taxes vals, DocR (fun b => w.heap[b]?) a.d legs taxes vals
theorem o_act : Opens enc Tryz.prog w 66 (RAct w) := (opens_struct Tryz.underlying66 (L := [(1, RI .i64), (5, RSale w), (17, RDoc w), (3, RE Key.v), (10, RE Own.v), (10, RE Held.v)]) (by kernel_rfl) ⟨rfl, by kernel_rfl, o_int, rfl, by kernel_rfl, o_sale, rfl, by kernel_rfl, o_doc, rfl, by kernel_rfl, o_key, rfl, by kernel_rfl, o_own, rfl, by kernel_rfl, o_held, trivial⟩).mono (by
  rintro _ ⟨_, _, rfl, ⟨a, rfl⟩, _, _, rfl, ⟨b, bl, bt, rfl, hb⟩, _, _, rfl, ⟨c, cl, ct, cv, rfl, hc⟩, _, _, rfl, ⟨d, rfl⟩, _, _, rfl, ⟨e, rfl⟩, _, _, rfl, ⟨f, rfl⟩, rfl⟩
  exact ⟨⟨a, b, c, d, e, f⟩, rfl, ⟨bl, bt, hb⟩, cl, ct, cv, hc⟩)
theorem o_acts : Opens enc Tryz.prog w 22 (fun cs => ∃ (s : Sl) (xs : List BAct), cs = [s.v] ∧ SlR (fun b => w.heap[b]?) BAct.v 46 s xs ∧ ∀ a ∈ xs, (∃ legs taxes, SaleR (fun b => w.heap[b]?) a.s legs taxes) ∧ ∃ legs taxes vals, DocR (fun b => w.heap[b]?) a.d legs taxes vals) :=
  opens_slice Tryz.underlying22 (by kernel_rfl) (by decide) o_act
end
end Go.Proofs.YtfoginganpgmcaaGreat
