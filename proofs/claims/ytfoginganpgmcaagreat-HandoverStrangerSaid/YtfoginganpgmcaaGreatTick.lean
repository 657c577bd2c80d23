/- ticket.Check. -/
import Derived.Test.YtfoginganpgmcaaGreatDocs
set_option linter.unusedSimpArgs false
set_option linter.unusedVariables false
namespace Go.Proofs.YtfoginganpgmcaaGreat
open Go Go.Tw
set_option maxRecDepth 100000

theorem notT {b : Bool} (h : (!b) = true) : b = false := by cases b <;> simp at h ⊢
theorem notF {b : Bool} (h : (!b) = false) : b = true := by cases b <;> simp at h ⊢
def legBad (n : Int) (l : Leg) : Bool := decide (l.car.n ≥ n) || decide (l.wt.n = 0)
def taxBad (t : Tax) : Bool := ((t.code.length : Int) != 2) || !letters t.code [] || !amounts [t.amt.n]
def saleShape (s : SaleP) (legs : List Leg) (taxes : List Tax) (n : Int) : Bool :=
  (decide ((s.name.length : Int) ≥ 1) && decide ((s.name.length : Int) ≤ 32) && letters s.name [32, 47]) && (decide ((legs.length : Int) ≥ 1) && decide ((legs.length : Int) ≤ 4) && decide ((taxes.length : Int) ≤ 4)) && amounts [s.fare.n, s.pen.n] && !legs.any (legBad n) && !taxes.any taxBad
/-- What ticket.Check says. -/
def saleErr (s : SaleP) (legs : List Leg) (taxes : List Tax) (n : Int) : Int :=
  if n < 2 ∨ n > 8 then 1 else if saleShape s legs taxes n = true then (priceOf s taxes).2 else 90
def saleB (b : Nat) (s : SaleP) : Asn := pt b (.cells s.v.cells 59)
theorem any_take {α : Type} {p : α → Bool} {xs : List α} {k : Nat} (h : k < xs.length) (ha : (xs.take k).any p = false) (hp : p xs[k] = false) : (xs.take (k + 1)).any p = false := by
  rw [List.take_succ_eq_append_getElem h, List.any_append, ha]; simp [hp]
theorem any_yes {α : Type} {p : α → Bool} {xs : List α} {k : Nat} (h : k < xs.length) (hp : p xs[k] = true) : xs.any p = true := by
  rw [List.any_eq_true]; exact ⟨xs[k], by simp, hp⟩
theorem any_end {α : Type} {p : α → Bool} {xs : List α} {k : Nat} (h : ¬ (k : Int) < xs.length) (ha : (xs.take k).any p = false) : xs.any p = false := by
  rwa [List.take_of_length_le (by omega)] at ha

-- << indexFuncLeg_c
theorem indexFuncLeg_c {c : Cx} {g : Heap} {w : World} {F : List Asn} {s : Sl} {xs : List Leg} (hs : SlR g Leg.v 3 s xs) (hl : xs.length ≤ 9223372036854775807) (p : Leg → Bool) (k0 : FuncId) (ca : List Value) (hk0 : ∀ args w, (callFunc k0 args).run Tryz.prog w = .ok (.enter k0 args) w)
    (hp : ∀ x ∈ xs, ∀ w, Holds c g w F → Calls Tryz.prog k0 (x.v :: ca).toArray w (Ret fun v w' => v = .bool (p x) ∧ Holds c g w' F)) (H : Holds c g w F) :
    Calls Tryz.prog 138 #[s.v, .func (.func k0) #[] ca.toArray] w (Ret fun v w' => (∃ i : Int, v = .int .i64 i ∧ decide (i ≥ 0) = xs.any p) ∧ Holds c g w' F) := by
  have hlen := hs.len
  have H : Holds c g w ([] ++ F) := H
  -- slices.IndexFunc[[]tarmac/api.Leg,tarmac/api.Leg]  (function 258; params ['56', '188']; results tmp:4; ntmps 19)
  refine calls_of_wpF Tryz.func138 rfl Tryz.ntmps138 rfl ?_
  refine wpF_seq ?_
  refine wpF_region rfl ?_   -- R0
  refine wpO_val rfl (x_assignI rfl) ?_
  refine wpO_nil ?_
  refine wpF_seq ?_
  refine wpF_seq ?_
  refine wpF_region rfl ?_   -- R1
  refine wpO_val rfl (x_moveL rfl) ?_
  refine wpO_val rfl (x_lenSl Tryz.underlying56 rfl) ?_
  refine wpO_val rfl (x_moveI rfl) ?_
  refine wpO_nil ?_
  refine wpF_block ?_   -- block 0
  refine wpF_loop (fun n f w => ∃ k f0, (k ≤ xs.length ∧ n = xs.length - k ∧ (xs.take k).any p = false) ∧ Holds c g w ([] ++ F) ∧ f = updL f0 [(0, s.v), (1, .func (.func k0) #[] ca.toArray), (7, .int .i64 s.len), (8, .int .i64 (k : Nat))]) xs.length ?_ ?_
  · exact ⟨0, _, ⟨by omega, by omega, by simp⟩, H, updL_eta ⟨rfl, rfl, rfl, rfl, trivial⟩⟩
  · rintro n f w ⟨k, f0, ⟨hk, hn, hall⟩, H, rfl⟩
    refine wpF_seq ?_
    refine wpF_region rfl ?_   -- R2
    refine wpO_val rfl (x_cmp rfl rfl rfl rfl) ?_
    refine wpO_nil ?_
    refine wpF_seq ?_
    refine wpF_cond _ rfl (fun hc => ?_) (fun hc => ?_)   -- t9
    ·
      have hk' : k < xs.length := by rw [← hlen]; simpa using hc
      refine wpF_skip ?_
      refine wpF_seq ?_
      refine wpF_block ?_   -- block 1
      refine wpF_seq ?_
      refine wpF_region rfl ?_   -- R3
      refine wpO_val rfl (x_moveI rfl) ?_
      refine wpO_val rfl (x_assignI rfl) ?_
      refine wpO_nil ?_
      refine wpF_seq ?_
      refine wpF_region rfl ?_   -- R4
      refine wpO_val rfl (x_moveF rfl) ?_
      refine wpO_val rfl (x_moveL rfl) ?_
      refine wpO_val rfl (x_moveI rfl) ?_
      refine wpO_val rfl (x_indexEl hs Tryz.underlying56 Tryz.sizeOf31 rfl rfl (by omega) (by omega)) ?_
      refine wpO_val rfl (x_loadEl elLeg hs H rfl (List.getElem?_eq_getElem hk')) ?_
      refine wpO_eff rfl (e_call (fi := #[]) (ca := ca.toArray) (vs := xs[k].v :: ca) rfl hk0 rfl ((hp xs[k] (by simp) w H).mono (Ret.mono ?_)))
      rintro v16 w ⟨rfl, H⟩
      refine wpO_nil ?_
      refine wpF_cond _ rfl (fun hc => ?_) (fun hc => ?_)   -- t16
      ·
        refine wpF_seq ?_
        refine wpF_region rfl ?_   -- R5
        refine wpO_val rfl (x_moveI rfl) ?_
        refine wpO_val rfl (x_assignI rfl) ?_
        refine wpO_nil ?_
        refine wpF_ret ?_
        repeat (with_reducible first | refine thenF_r ?_ | refine inBlockF_r ?_)
        refine end_t rfl rfl ?_   -- tmp:4
        exact ⟨⟨_, rfl, by rw [any_yes hk' hc]; simp⟩, H⟩
      ·
        refine wpF_skip ?_
        refine wpF_region rfl ?_   -- R6
        refine wpO_val rfl (x_arith rfl rfl (fun _ => rfl) rfl) ?_
        refine wpO_val rfl (x_moveI rfl) ?_
        refine wpO_nil ?_
        refine ⟨xs.length - (k + 1), by omega, k + 1, _, ⟨by omega, rfl, any_take hk' hall hc⟩, H, updL_eta ⟨rfl, rfl, rfl, vi64 (w64 (by omega) (by omega)), trivial⟩⟩
    ·
      refine wpF_exit ?_   -- exit 0
      refine wpF_seq ?_
      refine wpF_region rfl ?_   -- R7
      refine wpO_val rfl (x_assignI rfl) ?_
      refine wpO_nil ?_
      refine wpF_ret ?_
      repeat (with_reducible first | refine thenF_r ?_ | refine inBlockF_r ?_)
      refine end_t rfl rfl ?_   -- tmp:4
      exact ⟨⟨-1, rfl, by rw [any_end (by rw [← hlen]; simpa using hc) hall]; rfl⟩, H⟩
-- >> indexFuncLeg_c
-- << containsFuncLeg_c
theorem containsFuncLeg_c {c : Cx} {g : Heap} {w : World} {F : List Asn} {s : Sl} {xs : List Leg} (hs : SlR g Leg.v 3 s xs) (hl : xs.length ≤ 9223372036854775807) (p : Leg → Bool) (k0 : FuncId) (ca : List Value) (hk0 : ∀ args w, (callFunc k0 args).run Tryz.prog w = .ok (.enter k0 args) w)
    (hp : ∀ x ∈ xs, ∀ w, Holds c g w F → Calls Tryz.prog k0 (x.v :: ca).toArray w (Ret fun v w' => v = .bool (p x) ∧ Holds c g w' F)) (H : Holds c g w F) :
    Calls Tryz.prog 116 #[s.v, .func (.func k0) #[] ca.toArray] w (Ret fun v w' => v = .bool (xs.any p) ∧ Holds c g w' F) := by
  -- slices.ContainsFunc[[]tarmac/api.Leg,tarmac/api.Leg]  (function 200; params ['56', '188']; results tmp:4; ntmps 9)
  refine calls_of_wpF Tryz.func116 rfl Tryz.ntmps116 rfl ?_
  refine wpF_seq ?_
  refine wpF_region rfl ?_   -- R0
  refine wpO_val rfl (x_assignB rfl) ?_
  refine wpO_nil ?_
  refine wpF_seq ?_
  refine wpF_region rfl ?_   -- R1
  refine wpO_val rfl (x_moveL rfl) ?_
  refine wpO_val rfl (x_moveF rfl) ?_
  refine wpO_eff rfl (e_callF (vs := [s.v, .func (.func k0) #[] ca.toArray]) Tryz.call138 rfl ((indexFuncLeg_c hs hl p k0 ca hk0 hp H).mono (Ret.mono ?_)))
  rintro v7 w ⟨⟨i, rfl, hi⟩, H⟩
  refine wpO_val rfl (x_cmp rfl rfl rfl rfl) ?_
  refine wpO_val rfl (x_assignB rfl) ?_
  refine wpO_nil ?_
  refine wpF_ret ?_
  repeat (with_reducible first | refine thenF_r ?_ | refine inBlockF_r ?_)
  refine end_t rfl rfl ?_   -- tmp:4
  exact ⟨bq hi.symm, H⟩
-- >> containsFuncLeg_c
-- << indexFuncTax_c
theorem indexFuncTax_c {c : Cx} {g : Heap} {w : World} {F : List Asn} {s : Sl} {xs : List Tax} (hs : SlR g Tax.v 2 s xs) (hl : xs.length ≤ 9223372036854775807) (p : Tax → Bool) (k0 : FuncId) (ca : List Value) (hk0 : ∀ args w, (callFunc k0 args).run Tryz.prog w = .ok (.enter k0 args) w)
    (hp : ∀ x ∈ xs, ∀ w, Holds c g w F → Calls Tryz.prog k0 (x.v :: ca).toArray w (Ret fun v w' => v = .bool (p x) ∧ Holds c g w' F)) (H : Holds c g w F) :
    Calls Tryz.prog 139 #[s.v, .func (.func k0) #[] ca.toArray] w (Ret fun v w' => (∃ i : Int, v = .int .i64 i ∧ decide (i ≥ 0) = xs.any p) ∧ Holds c g w' F) := by
  have hlen := hs.len
  have H : Holds c g w ([] ++ F) := H
  -- slices.IndexFunc[[]tarmac/api.Tax,tarmac/api.Tax]  (function 259; params ['57', '190']; results tmp:4; ntmps 19)
  refine calls_of_wpF Tryz.func139 rfl Tryz.ntmps139 rfl ?_
  refine wpF_seq ?_
  refine wpF_region rfl ?_   -- R0
  refine wpO_val rfl (x_assignI rfl) ?_
  refine wpO_nil ?_
  refine wpF_seq ?_
  refine wpF_seq ?_
  refine wpF_region rfl ?_   -- R1
  refine wpO_val rfl (x_moveL rfl) ?_
  refine wpO_val rfl (x_lenSl Tryz.underlying57 rfl) ?_
  refine wpO_val rfl (x_moveI rfl) ?_
  refine wpO_nil ?_
  refine wpF_block ?_   -- block 0
  refine wpF_loop (fun n f w => ∃ k f0, (k ≤ xs.length ∧ n = xs.length - k ∧ (xs.take k).any p = false) ∧ Holds c g w ([] ++ F) ∧ f = updL f0 [(0, s.v), (1, .func (.func k0) #[] ca.toArray), (7, .int .i64 s.len), (8, .int .i64 (k : Nat))]) xs.length ?_ ?_
  · exact ⟨0, _, ⟨by omega, by omega, by simp⟩, H, updL_eta ⟨rfl, rfl, rfl, rfl, trivial⟩⟩
  · rintro n f w ⟨k, f0, ⟨hk, hn, hall⟩, H, rfl⟩
    refine wpF_seq ?_
    refine wpF_region rfl ?_   -- R2
    refine wpO_val rfl (x_cmp rfl rfl rfl rfl) ?_
    refine wpO_nil ?_
    refine wpF_seq ?_
    refine wpF_cond _ rfl (fun hc => ?_) (fun hc => ?_)   -- t9
    ·
      have hk' : k < xs.length := by rw [← hlen]; simpa using hc
      refine wpF_skip ?_
      refine wpF_seq ?_
      refine wpF_block ?_   -- block 1
      refine wpF_seq ?_
      refine wpF_region rfl ?_   -- R3
      refine wpO_val rfl (x_moveI rfl) ?_
      refine wpO_val rfl (x_assignI rfl) ?_
      refine wpO_nil ?_
      refine wpF_seq ?_
      refine wpF_region rfl ?_   -- R4
      refine wpO_val rfl (x_moveF rfl) ?_
      refine wpO_val rfl (x_moveL rfl) ?_
      refine wpO_val rfl (x_moveI rfl) ?_
      refine wpO_val rfl (x_indexEl hs Tryz.underlying57 Tryz.sizeOf158 rfl rfl (by omega) (by omega)) ?_
      refine wpO_val rfl (x_loadEl elTax hs H rfl (List.getElem?_eq_getElem hk')) ?_
      refine wpO_eff rfl (e_call (fi := #[]) (ca := ca.toArray) (vs := xs[k].v :: ca) rfl hk0 rfl ((hp xs[k] (by simp) w H).mono (Ret.mono ?_)))
      rintro v16 w ⟨rfl, H⟩
      refine wpO_nil ?_
      refine wpF_cond _ rfl (fun hc => ?_) (fun hc => ?_)   -- t16
      ·
        refine wpF_seq ?_
        refine wpF_region rfl ?_   -- R5
        refine wpO_val rfl (x_moveI rfl) ?_
        refine wpO_val rfl (x_assignI rfl) ?_
        refine wpO_nil ?_
        refine wpF_ret ?_
        repeat (with_reducible first | refine thenF_r ?_ | refine inBlockF_r ?_)
        refine end_t rfl rfl ?_   -- tmp:4
        exact ⟨⟨_, rfl, by rw [any_yes hk' hc]; simp⟩, H⟩
      ·
        refine wpF_skip ?_
        refine wpF_region rfl ?_   -- R6
        refine wpO_val rfl (x_arith rfl rfl (fun _ => rfl) rfl) ?_
        refine wpO_val rfl (x_moveI rfl) ?_
        refine wpO_nil ?_
        refine ⟨xs.length - (k + 1), by omega, k + 1, _, ⟨by omega, rfl, any_take hk' hall hc⟩, H, updL_eta ⟨rfl, rfl, rfl, vi64 (w64 (by omega) (by omega)), trivial⟩⟩
    ·
      refine wpF_exit ?_   -- exit 0
      refine wpF_seq ?_
      refine wpF_region rfl ?_   -- R7
      refine wpO_val rfl (x_assignI rfl) ?_
      refine wpO_nil ?_
      refine wpF_ret ?_
      repeat (with_reducible first | refine thenF_r ?_ | refine inBlockF_r ?_)
      refine end_t rfl rfl ?_   -- tmp:4
      exact ⟨⟨-1, rfl, by rw [any_end (by rw [← hlen]; simpa using hc) hall]; rfl⟩, H⟩
-- >> indexFuncTax_c
-- << containsFuncTax_c
theorem containsFuncTax_c {c : Cx} {g : Heap} {w : World} {F : List Asn} {s : Sl} {xs : List Tax} (hs : SlR g Tax.v 2 s xs) (hl : xs.length ≤ 9223372036854775807) (p : Tax → Bool) (k0 : FuncId) (ca : List Value) (hk0 : ∀ args w, (callFunc k0 args).run Tryz.prog w = .ok (.enter k0 args) w)
    (hp : ∀ x ∈ xs, ∀ w, Holds c g w F → Calls Tryz.prog k0 (x.v :: ca).toArray w (Ret fun v w' => v = .bool (p x) ∧ Holds c g w' F)) (H : Holds c g w F) :
    Calls Tryz.prog 119 #[s.v, .func (.func k0) #[] ca.toArray] w (Ret fun v w' => v = .bool (xs.any p) ∧ Holds c g w' F) := by
  -- slices.ContainsFunc[[]tarmac/api.Tax,tarmac/api.Tax]  (function 203; params ['57', '190']; results tmp:4; ntmps 9)
  refine calls_of_wpF Tryz.func119 rfl Tryz.ntmps119 rfl ?_
  refine wpF_seq ?_
  refine wpF_region rfl ?_   -- R0
  refine wpO_val rfl (x_assignB rfl) ?_
  refine wpO_nil ?_
  refine wpF_seq ?_
  refine wpF_region rfl ?_   -- R1
  refine wpO_val rfl (x_moveL rfl) ?_
  refine wpO_val rfl (x_moveF rfl) ?_
  refine wpO_eff rfl (e_callF (vs := [s.v, .func (.func k0) #[] ca.toArray]) Tryz.call139 rfl ((indexFuncTax_c hs hl p k0 ca hk0 hp H).mono (Ret.mono ?_)))
  rintro v7 w ⟨⟨i, rfl, hi⟩, H⟩
  refine wpO_val rfl (x_cmp rfl rfl rfl rfl) ?_
  refine wpO_val rfl (x_assignB rfl) ?_
  refine wpO_nil ?_
  refine wpF_ret ?_
  repeat (with_reducible first | refine thenF_r ?_ | refine inBlockF_r ?_)
  refine end_t rfl rfl ?_   -- tmp:4
  exact ⟨bq hi.symm, H⟩
-- >> containsFuncTax_c
-- << chk1_c
theorem chk1_c {c : Cx} {g : Heap} {w : World} {F : List Asn} {b : Nat} (s : SaleP) (hn : s.name.length ≤ 1000) (H : Holds c g w ([saleB b s] ++ F)) :
    Calls Tryz.prog 110 #[.pointer (some ⟨b, 0, none⟩)] w (Ret fun v w' => v = .bool (decide ((s.name.length : Int) ≥ 1) && decide ((s.name.length : Int) ≤ 32) && letters s.name [32, 47]) ∧ Holds c g w' ([saleB b s] ++ F)) := by
  -- tarmac/ticket.Check$1  (function 194; params []; results tmp:1; ntmps 17)
  refine calls_of_wpF Tryz.func110 rfl Tryz.ntmps110 rfl ?_
  refine wpF_seq ?_
  refine wpF_region rfl ?_   -- R0
  refine wpO_val rfl (x_assignB rfl) ?_
  refine wpO_nil ?_
  refine wpF_seq ?_
  refine wpF_region rfl ?_   -- R1
  refine wpO_val rfl (x_fieldAddr Tryz.underlying59 rfl Tryz.sizeOf9 rfl) ?_
  refine wpO_val rfl (x_load0b Tryz.isAgg9 rfl (H.getF 0 rfl) rfl) ?_
  refine wpO_val rfl (x_lenStr Tryz.underlying9 rfl) ?_
  refine wpO_val rfl (x_cmp rfl rfl rfl rfl) ?_
  refine wpO_val rfl (x_moveB rfl) ?_
  refine wpO_split 6 rfl (fun hb6 => ?_) (fun hb6 => ?_)
  ·
    refine wpO_val rfl (x_fieldAddr Tryz.underlying59 rfl Tryz.sizeOf9 rfl) ?_
    refine wpO_val rfl (x_load0b Tryz.isAgg9 rfl (H.getF 0 rfl) rfl) ?_
    refine wpO_val rfl (x_lenStr Tryz.underlying9 rfl) ?_
    refine wpO_val rfl (x_cmp rfl rfl rfl rfl) ?_
    refine wpO_val rfl (x_pickB rfl rfl) ?_
    refine wpO_val rfl (x_moveB rfl) ?_
    refine wpO_split 12 rfl (fun hb12 => ?_) (fun hb12 => ?_)
    ·
      refine wpO_val rfl (x_fieldAddr Tryz.underlying59 rfl Tryz.sizeOf9 rfl) ?_
      refine wpO_val rfl (x_load0b Tryz.isAgg9 rfl (H.getF 0 rfl) rfl) ?_
      refine wpO_eff rfl (e_callF Tryz.call111 rfl ((letters_c s.name [32, 47] (by omega) H).mono (Ret.mono ?_)))
      rintro v15 w ⟨rfl, H⟩
      refine wpO_val rfl (x_pickB rfl rfl) ?_
      refine wpO_val rfl (x_assignB rfl) ?_
      refine wpO_nil ?_
      refine wpF_ret ?_
      repeat (with_reducible first | refine thenF_r ?_ | refine inBlockF_r ?_)
      refine end_t rfl rfl ?_   -- tmp:1
      exact ⟨bq (show _ = letters s.name [32, 47] by rw [show decide ((s.name.length : Int) ≥ 1) = true from hb6, show decide ((s.name.length : Int) ≤ 32) = true from hb12]; rfl), H⟩
    ·
      refine wpO_not rfl ?_
      refine wpO_not rfl ?_
      refine wpO_not rfl ?_
      refine wpO_val rfl (x_pickB rfl rfl) ?_
      refine wpO_val rfl (x_assignB rfl) ?_
      refine wpO_nil ?_
      refine wpF_ret ?_
      repeat (with_reducible first | refine thenF_r ?_ | refine inBlockF_r ?_)
      refine end_t rfl rfl ?_   -- tmp:1
      exact ⟨bq (show _ = false by rw [show decide ((s.name.length : Int) ≤ 32) = false from hb12]; simp), H⟩
  ·
    refine wpO_not rfl ?_
    refine wpO_not rfl ?_
    refine wpO_not rfl ?_
    refine wpO_not rfl ?_
    refine wpO_val rfl (x_pickB rfl rfl) ?_
    refine wpO_val rfl (x_moveB rfl) ?_
    refine wpO_not rfl ?_
    refine wpO_not rfl ?_
    refine wpO_not rfl ?_
    refine wpO_val rfl (x_pickB rfl rfl) ?_
    refine wpO_val rfl (x_assignB rfl) ?_
    refine wpO_nil ?_
    refine wpF_ret ?_
    repeat (with_reducible first | refine thenF_r ?_ | refine inBlockF_r ?_)
    refine end_t rfl rfl ?_   -- tmp:1
    exact ⟨bq (show _ = false by rw [show decide ((s.name.length : Int) ≥ 1) = false from hb6]; simp), H⟩
-- >> chk1_c
-- << chk2_c
theorem chk2_c {c : Cx} {g : Heap} {w : World} {F : List Asn} {b : Nat} (s : SaleP) (legs : List Leg) (taxes : List Tax) (hs : SaleR g s legs taxes) (H : Holds c g w ([saleB b s] ++ F)) :
    Calls Tryz.prog 112 #[.pointer (some ⟨b, 0, none⟩)] w (Ret fun v w' => v = .bool (decide ((legs.length : Int) ≥ 1) && decide ((legs.length : Int) ≤ 4) && decide ((taxes.length : Int) ≤ 4)) ∧ Holds c g w' ([saleB b s] ++ F)) := by
  rw [← hs.l.len, ← hs.t.len]
  -- tarmac/ticket.Check$2  (function 196; params []; results tmp:1; ntmps 18)
  refine calls_of_wpF Tryz.func112 rfl Tryz.ntmps112 rfl ?_
  refine wpF_seq ?_
  refine wpF_region rfl ?_   -- R0
  refine wpO_val rfl (x_assignB rfl) ?_
  refine wpO_nil ?_
  refine wpF_seq ?_
  refine wpF_region rfl ?_   -- R1
  refine wpO_val rfl (x_fieldAddr Tryz.underlying59 rfl Tryz.sizeOf56 rfl) ?_
  refine wpO_val rfl (x_load0b Tryz.isAgg56 rfl (H.getF 0 rfl) rfl) ?_
  refine wpO_val rfl (x_lenSl Tryz.underlying56 rfl) ?_
  refine wpO_val rfl (x_cmp rfl rfl rfl rfl) ?_
  refine wpO_val rfl (x_moveB rfl) ?_
  refine wpO_split 6 rfl (fun hb6 => ?_) (fun hb6 => ?_)
  ·
    refine wpO_val rfl (x_fieldAddr Tryz.underlying59 rfl Tryz.sizeOf56 rfl) ?_
    refine wpO_val rfl (x_load0b Tryz.isAgg56 rfl (H.getF 0 rfl) rfl) ?_
    refine wpO_val rfl (x_lenSl Tryz.underlying56 rfl) ?_
    refine wpO_val rfl (x_cmp rfl rfl rfl rfl) ?_
    refine wpO_val rfl (x_pickB rfl rfl) ?_
    refine wpO_val rfl (x_moveB rfl) ?_
    refine wpO_split 12 rfl (fun hb12 => ?_) (fun hb12 => ?_)
    ·
      refine wpO_val rfl (x_fieldAddr Tryz.underlying59 rfl Tryz.sizeOf57 rfl) ?_
      refine wpO_val rfl (x_load0b Tryz.isAgg57 rfl (H.getF 0 rfl) rfl) ?_
      refine wpO_val rfl (x_lenSl Tryz.underlying57 rfl) ?_
      refine wpO_val rfl (x_cmp rfl rfl rfl rfl) ?_
      refine wpO_val rfl (x_pickB rfl rfl) ?_
      refine wpO_val rfl (x_assignB rfl) ?_
      refine wpO_nil ?_
      refine wpF_ret ?_
      repeat (with_reducible first | refine thenF_r ?_ | refine inBlockF_r ?_)
      refine end_t rfl rfl ?_   -- tmp:1
      exact ⟨bq (show _ = decide ((s.taxes.len : Int) ≤ 4) by rw [show decide ((s.legs.len : Int) ≥ 1) = true from hb6, show decide ((s.legs.len : Int) ≤ 4) = true from hb12]; rfl), H⟩
    ·
      refine wpO_not rfl ?_
      refine wpO_not rfl ?_
      refine wpO_not rfl ?_
      refine wpO_not rfl ?_
      refine wpO_val rfl (x_pickB rfl rfl) ?_
      refine wpO_val rfl (x_assignB rfl) ?_
      refine wpO_nil ?_
      refine wpF_ret ?_
      repeat (with_reducible first | refine thenF_r ?_ | refine inBlockF_r ?_)
      refine end_t rfl rfl ?_   -- tmp:1
      exact ⟨bq (show _ = false by rw [show decide ((s.legs.len : Int) ≤ 4) = false from hb12]; simp), H⟩
  ·
    refine wpO_not rfl ?_
    refine wpO_not rfl ?_
    refine wpO_not rfl ?_
    refine wpO_not rfl ?_
    refine wpO_val rfl (x_pickB rfl rfl) ?_
    refine wpO_val rfl (x_moveB rfl) ?_
    refine wpO_not rfl ?_
    refine wpO_not rfl ?_
    refine wpO_not rfl ?_
    refine wpO_not rfl ?_
    refine wpO_val rfl (x_pickB rfl rfl) ?_
    refine wpO_val rfl (x_assignB rfl) ?_
    refine wpO_nil ?_
    refine wpF_ret ?_
    repeat (with_reducible first | refine thenF_r ?_ | refine inBlockF_r ?_)
    refine end_t rfl rfl ?_   -- tmp:1
    exact ⟨bq (show _ = false by rw [show decide ((s.legs.len : Int) ≥ 1) = false from hb6]; simp), H⟩
-- >> chk2_c
-- << chk3_c
theorem chk3_c {c : Cx} {g : Heap} {w : World} {F : List Asn} {b : Nat} (s : SaleP) (H : Holds c g w ([saleB b s] ++ F)) :
    Calls Tryz.prog 113 #[.pointer (some ⟨b, 0, none⟩)] w (Ret fun v w' => v = .bool (amounts [s.fare.n, s.pen.n]) ∧ Holds c g w' ([saleB b s] ++ F)) := by
  -- tarmac/ticket.Check$3  (function 197; params []; results tmp:1; ntmps 8)
  refine calls_of_wpF Tryz.func113 rfl Tryz.ntmps113 rfl ?_
  refine wpF_seq ?_
  refine wpF_region rfl ?_   -- R0
  refine wpO_val rfl (x_assignB rfl) ?_
  refine wpO_nil ?_
  refine wpF_seq ?_
  refine wpF_region rfl ?_   -- R1
  refine wpO_val rfl (x_fieldAddr Tryz.underlying59 rfl Tryz.sizeOf2 rfl) ?_
  refine wpO_val rfl (x_load0b Tryz.isAgg2 rfl (H.getF 0 rfl) rfl) ?_
  refine wpO_val rfl (x_fieldAddr Tryz.underlying59 rfl Tryz.sizeOf2 rfl) ?_
  refine wpO_val rfl (x_load0b Tryz.isAgg2 rfl (H.getF 0 rfl) rfl) ?_
  refine wpO_eff rfl (e_buildSlice H Tryz.underlying60 Tryz.sizeOf2 Tryz.zeroValue2 rfl rfl (vs := [s.fare.v, s.pen.v]) rfl rfl (cs := [encI s.fare.n, encI s.pen.n]) rfl fun b6 w H => ?_)
  obtain ⟨g', hle, H, hs⟩ := Holds.sealLit (xs := [s.fare.n, s.pen.n]) (enc := encI) (m := 1) (H.sel [1, 0] 2 rfl rfl) rfl rfl (fun _ _ => rfl)
  refine wpO_eff rfl (e_callF Tryz.call114 rfl ((amounts_c hs (by simp) H).mono (Ret.mono ?_)))   -- of t6
  rintro v7 w ⟨rfl, H⟩
  refine wpO_val rfl (x_assignB rfl) ?_
  refine wpO_nil ?_
  refine wpF_ret ?_
  repeat (with_reducible first | refine thenF_r ?_ | refine inBlockF_r ?_)
  refine end_t rfl rfl ?_   -- tmp:1
  exact ⟨rfl, H.forget hle⟩
-- >> chk3_c
-- << chk41_c
theorem chk41_c {c : Cx} {g : Heap} {w : World} {F : List Asn} {b : Nat} (n : Int) (l : Leg) (H : Holds c g w ([pt b (.cells #[.int .i64 n] 3)] ++ F)) :
    Calls Tryz.prog 117 #[l.v, .pointer (some ⟨b, 0, none⟩)] w (Ret fun v w' => v = .bool (legBad n l) ∧ Holds c g w' ([pt b (.cells #[.int .i64 n] 3)] ++ F)) := by
  have hc : IntKind.i64.wrap l.car.n = l.car.n := w64 (by have := l.car.u8; omega) (by have := l.car.u8; omega)
  -- tarmac/ticket.Check$4$1  (function 201; params ['31']; results tmp:3; ntmps 14)
  refine calls_of_wpF Tryz.func117 rfl Tryz.ntmps117 rfl ?_
  refine wpF_seq ?_
  refine wpF_region rfl ?_   -- R0
  refine wpO_eff rfl (e_box H rfl fun b2 w H => ?_)
  refine wpO_val rfl (x_assignB rfl) ?_
  refine wpO_nil ?_
  refine wpF_seq ?_
  refine wpF_region rfl ?_   -- R1
  refine wpO_val rfl (x_fieldAddr Tryz.underlying31 rfl Tryz.sizeOf5 rfl) ?_
  refine wpO_val rfl (x_load0b Tryz.isAgg5 rfl (H.getF 1 rfl) rfl) ?_
  refine wpO_val rfl (x_conv Tryz.underlying5 Tryz.underlying3 rfl) ?_
  refine wpO_val rfl (x_load0b Tryz.isAgg3 rfl (H.getF 0 rfl) rfl) ?_
  refine wpO_val rfl (x_cmp rfl rfl rfl rfl) ?_
  refine wpO_val rfl (x_moveB rfl) ?_
  refine wpO_split 9 rfl (fun hb9 => ?_) (fun hb9 => ?_)
  ·
    refine wpO_not rfl ?_
    refine wpO_not rfl ?_
    refine wpO_not rfl ?_
    refine wpO_val rfl (x_pickB rfl rfl) ?_
    refine wpO_val rfl (x_assignB rfl) ?_
    refine wpO_nil ?_
    refine wpF_ret ?_
    repeat (with_reducible first | refine thenF_r ?_ | refine inBlockF_r ?_)
    refine end_t rfl rfl ?_   -- tmp:3
    rw [hc] at hb9
    exact ⟨bq (show legBad n l = true by unfold legBad; rw [hb9]; rfl), H.sel [0] 2 rfl rfl⟩
  ·
    refine wpO_val rfl (x_fieldAddr Tryz.underlying31 rfl Tryz.sizeOf29 rfl) ?_
    refine wpO_val rfl (x_load0b Tryz.isAgg29 rfl (H.getF 1 rfl) rfl) ?_
    refine wpO_val rfl (x_cmp rfl rfl rfl rfl) ?_
    refine wpO_val rfl (x_pickB rfl rfl) ?_
    refine wpO_val rfl (x_assignB rfl) ?_
    refine wpO_nil ?_
    refine wpF_ret ?_
    repeat (with_reducible first | refine thenF_r ?_ | refine inBlockF_r ?_)
    refine end_t rfl rfl ?_   -- tmp:3
    rw [hc] at hb9
    exact ⟨bq (show legBad n l = _ by unfold legBad; rw [hb9]; rfl), H.sel [0] 2 rfl rfl⟩
-- >> chk41_c
-- << chk51_c
theorem chk51_c {c : Cx} {g : Heap} {w : World} {F : List Asn} (t : Tax) (H : Holds c g w F) :
    Calls Tryz.prog 120 #[t.v] w (Ret fun v w' => v = .bool (taxBad t) ∧ Holds c g w' F) := by
  have H : Holds c g w ([] ++ F) := H
  -- tarmac/ticket.Check$5$1  (function 204; params ['158']; results tmp:2; ntmps 20)
  refine calls_of_wpF Tryz.func120 rfl Tryz.ntmps120 rfl ?_
  refine wpF_seq ?_
  refine wpF_region rfl ?_   -- R0
  refine wpO_eff rfl (e_box H rfl fun b1 w H => ?_)
  refine wpO_val rfl (x_assignB rfl) ?_
  refine wpO_nil ?_
  refine wpF_seq ?_
  refine wpF_region rfl ?_   -- R1
  refine wpO_val rfl (x_fieldAddr Tryz.underlying158 rfl Tryz.sizeOf9 rfl) ?_
  refine wpO_val rfl (x_load0b Tryz.isAgg9 rfl (H.getF 0 rfl) rfl) ?_
  refine wpO_val rfl (x_lenStr Tryz.underlying9 rfl) ?_
  refine wpO_val rfl (x_cmp rfl rfl rfl rfl) ?_
  refine wpO_val rfl (x_moveB rfl) ?_
  refine wpO_split 7 rfl (fun hb7 => ?_) (fun hb7 => ?_)
  ·
    refine wpO_not rfl ?_
    refine wpO_not rfl ?_
    refine wpO_not rfl ?_
    refine wpO_not rfl ?_
    refine wpO_val rfl (x_pickB rfl rfl) ?_
    refine wpO_val rfl (x_moveB rfl) ?_
    refine wpO_not rfl ?_
    refine wpO_not rfl ?_
    refine wpO_not rfl ?_
    refine wpO_not rfl ?_
    refine wpO_not rfl ?_
    refine wpO_val rfl (x_pickB rfl rfl) ?_
    refine wpO_val rfl (x_assignB rfl) ?_
    refine wpO_nil ?_
    refine wpF_ret ?_
    repeat (with_reducible first | refine thenF_r ?_ | refine inBlockF_r ?_)
    refine end_t rfl rfl ?_   -- tmp:2
    exact ⟨bq (show taxBad t = true by unfold taxBad; rw [show ((t.code.length : Int) != 2) = true from hb7]; rfl), H.sel [] 1 rfl rfl⟩
  ·
    refine wpO_val rfl (x_fieldAddr Tryz.underlying158 rfl Tryz.sizeOf9 rfl) ?_
    refine wpO_val rfl (x_load0b Tryz.isAgg9 rfl (H.getF 0 rfl) rfl) ?_
    have hlen2 : t.code.length = 2 := by have h : ((t.code.length : Int) != 2) = false := hb7; simp at h; omega
    refine wpO_eff rfl (e_callF Tryz.call111 rfl ((letters_c t.code [] (by omega) H).mono (Ret.mono ?_)))
    rintro v10 w ⟨rfl, H⟩
    refine wpO_val rfl (x_not rfl) ?_
    refine wpO_val rfl (x_pickB rfl rfl) ?_
    refine wpO_val rfl (x_moveB rfl) ?_
    refine wpO_split 13 rfl (fun hb13 => ?_) (fun hb13 => ?_)
    ·
      refine wpO_not rfl ?_
      refine wpO_not rfl ?_
      refine wpO_not rfl ?_
      refine wpO_not rfl ?_
      refine wpO_not rfl ?_
      refine wpO_val rfl (x_pickB rfl rfl) ?_
      refine wpO_val rfl (x_assignB rfl) ?_
      refine wpO_nil ?_
      refine wpF_ret ?_
      repeat (with_reducible first | refine thenF_r ?_ | refine inBlockF_r ?_)
      refine end_t rfl rfl ?_   -- tmp:2
      exact ⟨bq (show taxBad t = true by unfold taxBad; rw [show ((t.code.length : Int) != 2) = false from hb7, show (!letters t.code []) = true from hb13]; rfl), H.sel [] 1 rfl rfl⟩
    ·
      refine wpO_val rfl (x_fieldAddr Tryz.underlying158 rfl Tryz.sizeOf2 rfl) ?_
      refine wpO_val rfl (x_load0b Tryz.isAgg2 rfl (H.getF 0 rfl) rfl) ?_
      refine wpO_eff rfl (e_buildSlice H Tryz.underlying60 Tryz.sizeOf2 Tryz.zeroValue2 rfl rfl (vs := [t.amt.v]) rfl rfl (cs := [encI t.amt.n]) rfl fun b16 w H => ?_)
      obtain ⟨g', hle, H, hs⟩ := Holds.sealLit (xs := [t.amt.n]) (enc := encI) (m := 1) (H.sel [1, 0] 2 rfl rfl) rfl rfl (fun _ _ => rfl)
      refine wpO_eff rfl (e_callF Tryz.call114 rfl ((amounts_c hs (by simp) H).mono (Ret.mono ?_)))   -- of t16
      rintro v17 w ⟨rfl, H⟩
      refine wpO_val rfl (x_not rfl) ?_
      refine wpO_val rfl (x_pickB rfl rfl) ?_
      refine wpO_val rfl (x_assignB rfl) ?_
      refine wpO_nil ?_
      refine wpF_ret ?_
      repeat (with_reducible first | refine thenF_r ?_ | refine inBlockF_r ?_)
      refine end_t rfl rfl ?_   -- tmp:2
      exact ⟨bq (show taxBad t = _ by unfold taxBad; rw [show ((t.code.length : Int) != 2) = false from hb7, show (!letters t.code []) = false from hb13]; rfl), (Holds.sel (L := [_]) H [] 1 rfl rfl).forget hle⟩
-- >> chk51_c
-- << chk4_c
theorem chk4_c {c : Cx} {g : Heap} {w : World} {F : List Asn} {b b' : Nat} (s : SaleP) (n : Int) (legs : List Leg) (hl : legs.length ≤ 1000) (hs : SlR g Leg.v 3 s.legs legs) (H : Holds c g w ([saleB b s, pt b' (.cells #[.int .i64 n] 3)] ++ F)) :
    Calls Tryz.prog 115 #[.pointer (some ⟨b, 0, none⟩), .pointer (some ⟨b', 0, none⟩)] w (Ret fun v w' => v = .bool (!legs.any (legBad n)) ∧ Holds c g w' ([saleB b s, pt b' (.cells #[.int .i64 n] 3)] ++ F)) := by
  -- tarmac/ticket.Check$4  (function 199; params []; results tmp:2; ntmps 8)
  refine calls_of_wpF Tryz.func115 rfl Tryz.ntmps115 rfl ?_
  refine wpF_seq ?_
  refine wpF_region rfl ?_   -- R0
  refine wpO_val rfl (x_assignB rfl) ?_
  refine wpO_nil ?_
  refine wpF_seq ?_
  refine wpF_region rfl ?_   -- R1
  refine wpO_val rfl (x_fieldAddr Tryz.underlying59 rfl Tryz.sizeOf56 rfl) ?_
  refine wpO_val rfl (x_load0b Tryz.isAgg56 rfl (H.getF 0 rfl) rfl) ?_
  refine wpO_val rfl (x_makeFunc (vx := []) (vy := [.pointer (some ⟨b', 0, none⟩)]) rfl rfl) ?_
  refine wpO_eff rfl (e_callF (vs := [s.legs.v, .func (.func 117) #[] #[.pointer (some ⟨b', 0, none⟩)]]) Tryz.call116 rfl ((containsFuncLeg_c hs (by omega) (legBad n) 117 [.pointer (some ⟨b', 0, none⟩)] Tryz.call117 (fun x _ w H => chk41_c n x H) (H.sel [1, 0] 2 rfl rfl)).mono (Ret.mono ?_)))
  rintro v6 w ⟨rfl, H'⟩
  have H : Holds c g w ([saleB b s, pt b' (.cells #[.int .i64 n] 3)] ++ F) := Holds.sel (L := [pt b' (.cells #[.int .i64 n] 3), saleB b s]) H' [1, 0] 2 rfl rfl
  refine wpO_val rfl (x_not rfl) ?_
  refine wpO_val rfl (x_assignB rfl) ?_
  refine wpO_nil ?_
  refine wpF_ret ?_
  repeat (with_reducible first | refine thenF_r ?_ | refine inBlockF_r ?_)
  refine end_t rfl rfl ?_   -- tmp:2
  exact ⟨rfl, H⟩
-- >> chk4_c
-- << chk5_c
theorem chk5_c {c : Cx} {g : Heap} {w : World} {F : List Asn} {b : Nat} (s : SaleP) (taxes : List Tax) (hl : taxes.length ≤ 1000) (hs : SlR g Tax.v 2 s.taxes taxes) (H : Holds c g w ([saleB b s] ++ F)) :
    Calls Tryz.prog 118 #[.pointer (some ⟨b, 0, none⟩)] w (Ret fun v w' => v = .bool (!taxes.any taxBad) ∧ Holds c g w' ([saleB b s] ++ F)) := by
  -- tarmac/ticket.Check$5  (function 202; params []; results tmp:1; ntmps 6)
  refine calls_of_wpF Tryz.func118 rfl Tryz.ntmps118 rfl ?_
  refine wpF_seq ?_
  refine wpF_region rfl ?_   -- R0
  refine wpO_val rfl (x_assignB rfl) ?_
  refine wpO_nil ?_
  refine wpF_seq ?_
  refine wpF_region rfl ?_   -- R1
  refine wpO_val rfl (x_fieldAddr Tryz.underlying59 rfl Tryz.sizeOf57 rfl) ?_
  refine wpO_val rfl (x_load0b Tryz.isAgg57 rfl (H.getF 0 rfl) rfl) ?_
  refine wpO_eff rfl (e_callF (vs := [s.taxes.v, .func (.func 120) #[] #[]]) Tryz.call119 rfl ((containsFuncTax_c hs (by omega) taxBad 120 [] Tryz.call120 (fun x _ w H => chk51_c x H) H).mono (Ret.mono ?_)))
  rintro v4 w ⟨rfl, H'⟩
  replace H := H.re H' rfl
  refine wpO_val rfl (x_not rfl) ?_
  refine wpO_val rfl (x_assignB rfl) ?_
  refine wpO_nil ?_
  refine wpF_ret ?_
  repeat (with_reducible first | refine thenF_r ?_ | refine inBlockF_r ?_)
  refine end_t rfl rfl ?_   -- tmp:1
  exact ⟨rfl, H⟩
-- >> chk5_c
-- << tcheck_c
theorem tcheck_c {c : Cx} {g : Heap} {w : World} {F : List Asn} (s : SaleP) (legs : List Leg) (taxes : List Tax) (n : Int) (hs : SaleR g s legs taxes) (hn : s.name.length ≤ 1000) (hl : legs.length ≤ 1000) (ht : taxes.length ≤ 1000) (H : Holds c g w F) :
    Calls Tryz.prog 96 #[s.v, .int .i64 n] w (Ret fun v w' => v = .int .i64 (saleErr s legs taxes n) ∧ Holds c g w' F) := by
  have H : Holds c g w ([] ++ F) := H
  have hsh : saleShape s legs taxes n = ((decide ((s.name.length : Int) ≥ 1) && decide ((s.name.length : Int) ≤ 32) && letters s.name [32, 47]) && (decide ((legs.length : Int) ≥ 1) && decide ((legs.length : Int) ≤ 4) && decide ((taxes.length : Int) ≤ 4)) && amounts [s.fare.n, s.pen.n] && (!legs.any (legBad n)) && (!taxes.any taxBad)) := rfl
  -- tarmac/ticket.Check  (function 150; params ['59', '3']; results tmp:4; ntmps 36)
  refine calls_of_wpF Tryz.func96 rfl Tryz.ntmps96 rfl ?_
  refine wpF_seq ?_
  refine wpF_region rfl ?_   -- R0
  refine wpO_eff rfl (e_box H rfl fun b2 w H => ?_)
  refine wpO_eff rfl (e_box H rfl fun b3 w H => ?_)
  refine wpO_val rfl (x_assignI rfl) ?_
  refine wpO_nil ?_
  refine wpF_seq ?_
  refine wpF_seq ?_
  refine wpF_region rfl ?_   -- R1
  refine wpO_val rfl (x_load0b Tryz.isAgg3 rfl (H.getF 1 rfl) rfl) ?_
  refine wpO_val rfl (x_cmp rfl rfl rfl rfl) ?_
  refine wpO_val rfl (x_moveB rfl) ?_
  refine wpO_split 11 rfl (fun hb11 => ?_) (fun hb11 => ?_)
  ·
    refine wpO_not rfl ?_
    refine wpO_not rfl ?_
    refine wpO_val rfl (x_pickB rfl rfl) ?_
    refine wpO_nil ?_
    refine wpF_true rfl ?_
    refine wpF_seq ?_
    refine wpF_region rfl ?_   -- R2
    refine wpO_val rfl (x_assignI rfl) ?_
    refine wpO_nil ?_
    refine wpF_ret ?_
    repeat (with_reducible first | refine thenF_r ?_ | refine inBlockF_r ?_)
    refine end_t rfl rfl ?_   -- tmp:4
    exact ⟨iq (by unfold saleErr; rw [if_pos (.inl (by simpa using hb11))]), H.sel [] 2 rfl rfl⟩
  ·
    refine wpO_val rfl (x_load0b Tryz.isAgg3 rfl (H.getF 1 rfl) rfl) ?_
    refine wpO_val rfl (x_cmp rfl rfl rfl rfl) ?_
    refine wpO_val rfl (x_pickB rfl rfl) ?_
    refine wpO_nil ?_
    refine wpF_cond _ rfl (fun hc => ?_) (fun hc => ?_)   -- t14
    ·
      refine wpF_seq ?_
      refine wpF_region rfl ?_   -- R2
      refine wpO_val rfl (x_assignI rfl) ?_
      refine wpO_nil ?_
      refine wpF_ret ?_
      repeat (with_reducible first | refine thenF_r ?_ | refine inBlockF_r ?_)
      refine end_t rfl rfl ?_   -- tmp:4
      exact ⟨iq (by unfold saleErr; rw [if_pos (.inr (by simpa using hc))]), H.sel [] 2 rfl rfl⟩
    ·
      have hN : ¬ (n < 2 ∨ n > 8) := by simp at hb11 hc; omega
      refine wpF_skip ?_
      refine wpF_seq ?_
      refine wpF_seq ?_
      refine wpF_region rfl ?_   -- R3
      refine wpO_val rfl (x_makeFunc (vx := []) (vy := [.pointer (some ⟨b2, 0, none⟩)]) rfl rfl) ?_
      refine wpO_val rfl (x_makeFunc (vx := []) (vy := [.pointer (some ⟨b2, 0, none⟩)]) rfl rfl) ?_
      refine wpO_val rfl (x_makeFunc (vx := []) (vy := [.pointer (some ⟨b2, 0, none⟩)]) rfl rfl) ?_
      refine wpO_val rfl (x_makeFunc (vx := []) (vy := [.pointer (some ⟨b2, 0, none⟩), .pointer (some ⟨b3, 0, none⟩)]) rfl rfl) ?_
      refine wpO_val rfl (x_makeFunc (vx := []) (vy := [.pointer (some ⟨b2, 0, none⟩)]) rfl rfl) ?_
      refine wpO_eff rfl (e_buildSlice H Tryz.underlying191 Tryz.sizeOf36 Tryz.zeroValue36 rfl rfl (vs := [.func (.func 110) #[] #[.pointer (some ⟨b2, 0, none⟩)], .func (.func 112) #[] #[.pointer (some ⟨b2, 0, none⟩)], .func (.func 113) #[] #[.pointer (some ⟨b2, 0, none⟩)], .func (.func 115) #[] #[.pointer (some ⟨b2, 0, none⟩), .pointer (some ⟨b3, 0, none⟩)], .func (.func 118) #[] #[.pointer (some ⟨b2, 0, none⟩)]]) rfl rfl (cs := [.func (.func 110) #[] #[.pointer (some ⟨b2, 0, none⟩)], .func (.func 112) #[] #[.pointer (some ⟨b2, 0, none⟩)], .func (.func 113) #[] #[.pointer (some ⟨b2, 0, none⟩)], .func (.func 115) #[] #[.pointer (some ⟨b2, 0, none⟩), .pointer (some ⟨b3, 0, none⟩)], .func (.func 118) #[] #[.pointer (some ⟨b2, 0, none⟩)]]) rfl fun b20 w H => ?_)
      refine wpO_val rfl (x_lenSl Tryz.underlying191 rfl) ?_
      refine wpO_val rfl (x_moveI rfl) ?_
      refine wpO_nil ?_
      refine wpF_block ?_   -- block 0
      refine wpF_unroll 5 ?_
      refine wpLoop_s ?_
      refine wpF_seq ?_
      refine wpF_region rfl ?_   -- R4
      refine wpO_val rfl (x_cmp rfl rfl rfl rfl) ?_
      refine wpO_nil ?_
      refine wpF_seq ?_
      refine wpF_true rfl ?_
      refine wpF_skip ?_
      refine wpF_seq ?_
      refine wpF_block ?_   -- block 1
      refine wpF_seq ?_
      refine wpF_region rfl ?_   -- R5
      refine wpO_val rfl (x_indexSl Tryz.underlying191 Tryz.sizeOf36 rfl rfl (by decide) (by decide)) ?_
      refine wpO_val rfl (x_load0b Tryz.isAgg36 rfl (H.getF 2 rfl) rfl) ?_
      refine wpO_val rfl (x_assignF rfl) ?_
      refine wpO_nil ?_
      refine wpF_seq ?_
      refine wpF_region rfl ?_   -- R6
      refine wpO_val rfl (x_moveF rfl) ?_
      refine wpO_eff rfl (e_call (fi := #[]) (ca := #[.pointer (some ⟨b2, 0, none⟩)]) (vs := [.pointer (some ⟨b2, 0, none⟩)]) rfl Tryz.call110 rfl ((chk1_c s hn H).mono (Ret.mono ?_)))
      rintro v27 w ⟨rfl, H'⟩
      replace H := H.re H' rfl
      refine wpO_val rfl (x_not rfl) ?_
      refine wpO_nil ?_
      refine wpF_cond _ rfl (fun hc => ?_) (fun hc1 => ?_)
      ·
        refine wpF_seq ?_
        refine wpF_region rfl ?_   -- R7
        refine wpO_val rfl (x_assignI rfl) ?_
        refine wpO_nil ?_
        refine wpF_ret ?_
        repeat (with_reducible first | refine thenF_r ?_ | refine inBlockF_r ?_)
        refine end_t rfl rfl ?_   -- tmp:4
        have hF : (decide ((s.name.length : Int) ≥ 1) && decide ((s.name.length : Int) ≤ 32) && letters s.name [32, 47]) = false := notT hc
        exact ⟨iq (by unfold saleErr; rw [if_neg hN, hsh, hF]; simp), H.sel [] 3 rfl rfl⟩
      ·
        refine wpF_skip ?_
        refine wpF_region rfl ?_   -- R8
        refine wpO_val rfl (x_arith rfl rfl (fun _ => rfl) rfl) ?_
        refine wpO_val rfl (x_moveI rfl) ?_
        refine wpO_nil ?_
        refine wpLoop_s ?_
        refine wpF_seq ?_
        refine wpF_region rfl ?_   -- R4
        refine wpO_val rfl (x_cmp rfl rfl rfl rfl) ?_
        refine wpO_nil ?_
        refine wpF_seq ?_
        refine wpF_true rfl ?_
        refine wpF_skip ?_
        refine wpF_seq ?_
        refine wpF_block ?_   -- block 1
        refine wpF_seq ?_
        refine wpF_region rfl ?_   -- R5
        refine wpO_val rfl (x_indexSl Tryz.underlying191 Tryz.sizeOf36 rfl rfl (by decide) (by decide)) ?_
        refine wpO_val rfl (x_load0b Tryz.isAgg36 rfl (H.getF 2 rfl) rfl) ?_
        refine wpO_val rfl (x_assignF rfl) ?_
        refine wpO_nil ?_
        refine wpF_seq ?_
        refine wpF_region rfl ?_   -- R6
        refine wpO_val rfl (x_moveF rfl) ?_
        refine wpO_eff rfl (e_call (fi := #[]) (ca := #[.pointer (some ⟨b2, 0, none⟩)]) (vs := [.pointer (some ⟨b2, 0, none⟩)]) rfl Tryz.call112 rfl ((chk2_c s legs taxes hs H).mono (Ret.mono ?_)))
        rintro v27 w ⟨rfl, H'⟩
        replace H := H.re H' rfl
        refine wpO_val rfl (x_not rfl) ?_
        refine wpO_nil ?_
        refine wpF_cond _ rfl (fun hc => ?_) (fun hc2 => ?_)
        ·
          refine wpF_seq ?_
          refine wpF_region rfl ?_   -- R7
          refine wpO_val rfl (x_assignI rfl) ?_
          refine wpO_nil ?_
          refine wpF_ret ?_
          repeat (with_reducible first | refine thenF_r ?_ | refine inBlockF_r ?_)
          refine end_t rfl rfl ?_   -- tmp:4
          have hF : (decide ((legs.length : Int) ≥ 1) && decide ((legs.length : Int) ≤ 4) && decide ((taxes.length : Int) ≤ 4)) = false := notT hc
          exact ⟨iq (by unfold saleErr; rw [if_neg hN, hsh, hF]; simp), H.sel [] 3 rfl rfl⟩
        ·
          refine wpF_skip ?_
          refine wpF_region rfl ?_   -- R8
          refine wpO_val rfl (x_arith rfl rfl (fun _ => rfl) rfl) ?_
          refine wpO_val rfl (x_moveI rfl) ?_
          refine wpO_nil ?_
          refine wpLoop_s ?_
          refine wpF_seq ?_
          refine wpF_region rfl ?_   -- R4
          refine wpO_val rfl (x_cmp rfl rfl rfl rfl) ?_
          refine wpO_nil ?_
          refine wpF_seq ?_
          refine wpF_true rfl ?_
          refine wpF_skip ?_
          refine wpF_seq ?_
          refine wpF_block ?_   -- block 1
          refine wpF_seq ?_
          refine wpF_region rfl ?_   -- R5
          refine wpO_val rfl (x_indexSl Tryz.underlying191 Tryz.sizeOf36 rfl rfl (by decide) (by decide)) ?_
          refine wpO_val rfl (x_load0b Tryz.isAgg36 rfl (H.getF 2 rfl) rfl) ?_
          refine wpO_val rfl (x_assignF rfl) ?_
          refine wpO_nil ?_
          refine wpF_seq ?_
          refine wpF_region rfl ?_   -- R6
          refine wpO_val rfl (x_moveF rfl) ?_
          refine wpO_eff rfl (e_call (fi := #[]) (ca := #[.pointer (some ⟨b2, 0, none⟩)]) (vs := [.pointer (some ⟨b2, 0, none⟩)]) rfl Tryz.call113 rfl ((chk3_c s H).mono (Ret.mono ?_)))
          rintro v27 w ⟨rfl, H'⟩
          replace H := H.re H' rfl
          refine wpO_val rfl (x_not rfl) ?_
          refine wpO_nil ?_
          refine wpF_cond _ rfl (fun hc => ?_) (fun hc3 => ?_)
          ·
            refine wpF_seq ?_
            refine wpF_region rfl ?_   -- R7
            refine wpO_val rfl (x_assignI rfl) ?_
            refine wpO_nil ?_
            refine wpF_ret ?_
            repeat (with_reducible first | refine thenF_r ?_ | refine inBlockF_r ?_)
            refine end_t rfl rfl ?_   -- tmp:4
            have hF : amounts [s.fare.n, s.pen.n] = false := notT hc
            exact ⟨iq (by unfold saleErr; rw [if_neg hN, hsh, hF]; simp), H.sel [] 3 rfl rfl⟩
          ·
            refine wpF_skip ?_
            refine wpF_region rfl ?_   -- R8
            refine wpO_val rfl (x_arith rfl rfl (fun _ => rfl) rfl) ?_
            refine wpO_val rfl (x_moveI rfl) ?_
            refine wpO_nil ?_
            refine wpLoop_s ?_
            refine wpF_seq ?_
            refine wpF_region rfl ?_   -- R4
            refine wpO_val rfl (x_cmp rfl rfl rfl rfl) ?_
            refine wpO_nil ?_
            refine wpF_seq ?_
            refine wpF_true rfl ?_
            refine wpF_skip ?_
            refine wpF_seq ?_
            refine wpF_block ?_   -- block 1
            refine wpF_seq ?_
            refine wpF_region rfl ?_   -- R5
            refine wpO_val rfl (x_indexSl Tryz.underlying191 Tryz.sizeOf36 rfl rfl (by decide) (by decide)) ?_
            refine wpO_val rfl (x_load0b Tryz.isAgg36 rfl (H.getF 2 rfl) rfl) ?_
            refine wpO_val rfl (x_assignF rfl) ?_
            refine wpO_nil ?_
            refine wpF_seq ?_
            refine wpF_region rfl ?_   -- R6
            refine wpO_val rfl (x_moveF rfl) ?_
            refine wpO_eff rfl (e_call (fi := #[]) (ca := #[.pointer (some ⟨b2, 0, none⟩), .pointer (some ⟨b3, 0, none⟩)]) (vs := [.pointer (some ⟨b2, 0, none⟩), .pointer (some ⟨b3, 0, none⟩)]) rfl Tryz.call115 rfl ((chk4_c s n legs hl hs.l (H.sel [0, 1, 2] 3 rfl rfl)).mono (Ret.mono ?_)))
            rintro v27 w ⟨rfl, H'⟩
            replace H := H.re H' rfl
            refine wpO_val rfl (x_not rfl) ?_
            refine wpO_nil ?_
            refine wpF_cond _ rfl (fun hc => ?_) (fun hc4 => ?_)
            ·
              refine wpF_seq ?_
              refine wpF_region rfl ?_   -- R7
              refine wpO_val rfl (x_assignI rfl) ?_
              refine wpO_nil ?_
              refine wpF_ret ?_
              repeat (with_reducible first | refine thenF_r ?_ | refine inBlockF_r ?_)
              refine end_t rfl rfl ?_   -- tmp:4
              have hF : (!legs.any (legBad n)) = false := notT hc
              exact ⟨iq (by unfold saleErr; rw [if_neg hN, hsh, hF]; simp), H.sel [] 3 rfl rfl⟩
            ·
              refine wpF_skip ?_
              refine wpF_region rfl ?_   -- R8
              refine wpO_val rfl (x_arith rfl rfl (fun _ => rfl) rfl) ?_
              refine wpO_val rfl (x_moveI rfl) ?_
              refine wpO_nil ?_
              refine wpLoop_s ?_
              refine wpF_seq ?_
              refine wpF_region rfl ?_   -- R4
              refine wpO_val rfl (x_cmp rfl rfl rfl rfl) ?_
              refine wpO_nil ?_
              refine wpF_seq ?_
              refine wpF_true rfl ?_
              refine wpF_skip ?_
              refine wpF_seq ?_
              refine wpF_block ?_   -- block 1
              refine wpF_seq ?_
              refine wpF_region rfl ?_   -- R5
              refine wpO_val rfl (x_indexSl Tryz.underlying191 Tryz.sizeOf36 rfl rfl (by decide) (by decide)) ?_
              refine wpO_val rfl (x_load0b Tryz.isAgg36 rfl (H.getF 2 rfl) rfl) ?_
              refine wpO_val rfl (x_assignF rfl) ?_
              refine wpO_nil ?_
              refine wpF_seq ?_
              refine wpF_region rfl ?_   -- R6
              refine wpO_val rfl (x_moveF rfl) ?_
              refine wpO_eff rfl (e_call (fi := #[]) (ca := #[.pointer (some ⟨b2, 0, none⟩)]) (vs := [.pointer (some ⟨b2, 0, none⟩)]) rfl Tryz.call118 rfl ((chk5_c s taxes ht hs.t H).mono (Ret.mono ?_)))
              rintro v27 w ⟨rfl, H'⟩
              replace H := H.re H' rfl
              refine wpO_val rfl (x_not rfl) ?_
              refine wpO_nil ?_
              refine wpF_cond _ rfl (fun hc => ?_) (fun hc5 => ?_)
              ·
                refine wpF_seq ?_
                refine wpF_region rfl ?_   -- R7
                refine wpO_val rfl (x_assignI rfl) ?_
                refine wpO_nil ?_
                refine wpF_ret ?_
                repeat (with_reducible first | refine thenF_r ?_ | refine inBlockF_r ?_)
                refine end_t rfl rfl ?_   -- tmp:4
                have hF : (!taxes.any taxBad) = false := notT hc
                exact ⟨iq (by unfold saleErr; rw [if_neg hN, hsh, hF]; simp), H.sel [] 3 rfl rfl⟩
              ·
                refine wpF_skip ?_
                refine wpF_region rfl ?_   -- R8
                refine wpO_val rfl (x_arith rfl rfl (fun _ => rfl) rfl) ?_
                refine wpO_val rfl (x_moveI rfl) ?_
                refine wpO_nil ?_
                refine wpLoop_0 ?_
                refine wpF_seq ?_
                refine wpF_region rfl ?_   -- R4
                refine wpO_val rfl (x_cmp rfl rfl rfl rfl) ?_
                refine wpO_nil ?_
                refine wpF_seq ?_
                refine wpF_false rfl ?_
                refine wpF_exit ?_   -- exit 0
                refine wpF_seq ?_
                refine wpF_region rfl ?_   -- R9
                refine wpO_val rfl (x_load1 Tryz.isAgg59 Tryz.sizeOf59 rfl (H.getF 0 rfl) rfl) ?_
                refine wpO_eff rfl (e_callF Tryz.call121 rfl ((price_c s taxes hs.t (by omega) H).mono (Ret.mono ?_)))
                rintro v32 w ⟨rfl, H'⟩
                replace H := H.re H' rfl
                refine wpO_val rfl (x_moveT rfl) ?_
                refine wpO_val rfl (x_extract rfl rfl) ?_
                refine wpO_val rfl (x_extract rfl rfl) ?_
                refine wpO_val rfl (x_assignI rfl) ?_
                refine wpO_val rfl (x_assignI rfl) ?_
                refine wpO_nil ?_
                refine wpF_seq ?_
                refine wpF_region rfl ?_   -- R10
                refine wpO_val rfl (x_moveI rfl) ?_
                refine wpO_val rfl (x_assignI rfl) ?_
                refine wpO_nil ?_
                refine wpF_ret ?_
                repeat (with_reducible first | refine thenF_r ?_ | refine inBlockF_r ?_)
                refine end_t rfl rfl ?_   -- tmp:4
                have hall : saleShape s legs taxes n = true := by rw [hsh, notF hc1, notF hc2, notF hc3, notF hc4, notF hc5]; rfl
                exact ⟨iq (by unfold saleErr; rw [if_neg hN, if_pos hall]), H.sel [] 3 rfl rfl⟩
-- >> tcheck_c
end Go.Proofs.YtfoginganpgmcaaGreat
