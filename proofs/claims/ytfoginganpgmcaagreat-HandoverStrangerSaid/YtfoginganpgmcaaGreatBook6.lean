/- A book: Same. -/
import Derived.Test.YtfoginganpgmcaaGreatBook5
set_option linter.unusedSimpArgs false
set_option linter.unusedVariables false
namespace Go.Tw
section
variable {α : Type} {ok : α → Bool} {l todo todo' : List α} {p : α}
/-- All that was gone through so far is in order. -/
def AllInv (ok : α → Bool) (l todo : List α) : Prop := ∃ seen : List α, l.Perm (seen ++ todo) ∧ seen.all ok = true
theorem AllInv.start : AllInv ok l l := ⟨[], .refl _, rfl⟩
theorem AllInv.step (h : AllInv ok l todo) (hp : todo.Perm (p :: todo')) (hk : ok p = true) : AllInv ok l todo' := by
  obtain ⟨seen, h1, h2⟩ := h
  refine ⟨p :: seen, ?_, by simp [h2, hk]⟩
  exact h1.trans ((List.Perm.append_left seen hp).trans List.perm_middle)
theorem AllInv.fail (h : AllInv ok l todo) (hp : todo.Perm (p :: todo')) (hk : ok p = false) : l.all ok = false := by
  obtain ⟨seen, h1, h2⟩ := h
  have : p ∈ l := h1.mem_iff.2 (List.mem_append_right _ (hp.mem_iff.2 (List.mem_cons_self ..)))
  rw [List.all_eq_false]
  exact ⟨p, this, by simp [hk]⟩
theorem AllInv.over (h : AllInv ok l []) : l.all ok = true := by
  obtain ⟨seen, h1, h2⟩ := h
  rw [List.append_nil] at h1
  rw [List.all_eq_true] at h2 ⊢
  exact fun x hx => h2 x (h1.mem_iff.1 hx)
theorem AllInv.mem (h : AllInv ok l todo) {x : α} (hx : x ∈ todo) : x ∈ l := by
  obtain ⟨seen, h1, h2⟩ := h
  exact h1.mem_iff.2 (List.mem_append_right _ hx)
end
/-- Have two maps the same? -/
def eqMap {K V : Type} [DecidableEq K] [DecidableEq V] (l1 l2 : List (K × V)) : Bool := decide (l1.length = l2.length) && l1.all fun p => decide (kget l2 p.1 = some p.2)
end Go.Tw
namespace Go.Proofs.YtfoginganpgmcaaGreat
open Go Go.Tw
set_option maxRecDepth 100000

theorem sameDoc_is {g : Heap} {d d2 : DocP} {C C2 : DocC} (h : DocIs g d C) (h2 : DocIs g d2 C2) : sameDoc d d2 C.legs C2.legs C.taxes C2.taxes C.vals C2.vals = decide (C = C2) := by
  have e1 := h.eq
  have e2 := h2.eq
  cases C; cases C2
  simp only at e1 e2
  subst e1; subst e2
  rw [Bool.eq_iff_iff]
  simp only [sameDoc, sameSale, docA5, DocP.bare, Bool.and_eq_true, decide_eq_true_eq, DocC.mk.injEq, DocP.mk.injEq, SaleP.mk.injEq, A5.mk.injEq, and_true, true_and]
  constructor
  · rintro ⟨⟨⟨⟨⟨⟨⟨⟨⟨a1, a2⟩, a3⟩, a4⟩, a5⟩, a6⟩, a7⟩, a8⟩, a9⟩, a10⟩
    simp_all
  · rintro ⟨⟨a1, a2⟩, a3⟩
    simp_all
/-- Have two books the same documents? -/
def eqDocs (φ φ2 : Ticket → Option DocC) (l l2 : List (Ticket × DocP)) : Bool := decide (l.length = l2.length) && l.all fun p => decide (φ p.1 = φ2 p.1)
-- << mapsEqualOwn_c
theorem mapsEqualOwn_c {c : Cx} {g : Heap} {w : World} {F : List Asn} {m1 m2 : Nat} {l1 l2 : List (Key × Own)} (H : Holds c g w ([mapA m1 Key.v Own.v l1, mapA m2 Key.v Own.v l2] ++ F)) :
    Calls Tryz.prog 54 #[.map (some m1), .map (some m2)] w (Ret fun v w' => v = .bool (eqMap l1 l2) ∧ Holds c g w' ([mapA m1 Key.v Own.v l1, mapA m2 Key.v Own.v l2] ++ F)) := by
  -- maps.Equal[map[tarmac/api.Key]tarmac/api.Own,map[tarmac/api.Key]tarmac/api.Own,tarmac/api.Key,tarmac/api.Own]  (function 54; params ['102', '102']; results tmp:4; ntmps 34)
  refine calls_of_wpF Tryz.func54 rfl Tryz.ntmps54 rfl ?_
  refine wpF_seq ?_
  refine wpF_region rfl ?_   -- R0
  refine wpO_val rfl (x_assignB rfl) ?_
  refine wpO_nil ?_
  refine wpF_seq ?_
  refine wpF_seq ?_
  refine wpF_region rfl ?_   -- R1
  refine wpO_val rfl (x_moveM rfl) ?_
  refine wpO_val rfl (H.lenMap 0 rfl Tryz.underlying102 rfl) ?_
  refine wpO_val rfl (x_moveM rfl) ?_
  refine wpO_val rfl (H.lenMap 1 rfl Tryz.underlying102 rfl) ?_
  refine wpO_val rfl (x_cmp rfl rfl rfl rfl) ?_
  refine wpO_nil ?_
  refine wpF_cond _ rfl (fun hc => ?_) (fun hc => ?_)   -- t13
  ·
    refine wpF_seq ?_
    refine wpF_region rfl ?_   -- R2
    refine wpO_val rfl (x_assignB rfl) ?_
    refine wpO_nil ?_
    refine wpF_ret ?_
    repeat (with_reducible first | refine thenF_r ?_ | refine inBlockF_r ?_)
    refine end_t rfl rfl ?_   -- tmp:4
    have hlen : ¬ l1.length = l2.length := by simp at hc; omega
    have hE : eqMap l1 l2 = false := by simp [eqMap, hlen]
    exact ⟨by rw [hE]; rfl, H.sel [0, 1] 2 rfl rfl⟩
  ·
    refine wpF_skip ?_
    refine wpF_seq ?_
    refine wpF_seq ?_
    refine wpF_region rfl ?_   -- R3
    refine wpO_val rfl (x_moveM rfl) ?_
    have hlen : l1.length = l2.length := by simp at hc; omega
    refine wpO_eff rfl (e_range H 0 rfl Tryz.underlying102 rfl fun it15 w H => ?_)
    refine wpO_nil ?_
    refine wpF_block ?_   -- block 0
    refine wpF_loop (fun n f w => ∃ (f0 : Fr) (todo : List (Key × Own)) (cur : Option (Key × Own)), (n = todo.length ∧ AllInv (fun p => decide (kget l2 p.1 = some p.2)) l1 todo) ∧ Holds c g w ([mapIt m1 it15 Key.v Own.v l1 todo cur, mapA m2 Key.v Own.v l2] ++ F) ∧ f = updL f0 [(1, .map (some m2)), (15, .pointer (some ⟨it15, 0, none⟩))]) l1.length ?_ ?_
    · exact ⟨_, l1, none, ⟨rfl, .start⟩, H, updL_eta ⟨rfl, rfl, trivial⟩⟩
    · rintro n f w ⟨f0, todo, cur, ⟨rfl, hinv⟩, H, rfl⟩
      refine wpF_seq ?_
      refine wpF_region rfl ?_   -- R4
      refine wpO_eff rfl (e_next H 0 rfl rfl (fun h0 => ?_) (fun p16 todo16 w hp16 H => ?_))
      ·
        refine wpO_val rfl (x_extractB rfl rfl) ?_
        refine wpO_nil ?_
        refine wpF_seq ?_
        refine wpF_false rfl ?_
        refine wpF_exit ?_   -- exit 0
        refine wpF_seq ?_
        refine wpF_region rfl ?_   -- R9
        refine wpO_val rfl (x_assignB rfl) ?_
        refine wpO_nil ?_
        refine wpF_ret ?_
        repeat (with_reducible first | refine thenF_r ?_ | refine inBlockF_r ?_)
        refine end_t rfl rfl ?_   -- tmp:4
        subst h0
        have hE : eqMap l1 l2 = true := by rw [eqMap, hinv.over]; simp [hlen]
        exact ⟨by rw [hE]; rfl, Holds.sel (H.itDoneF 0 rfl) [0, 1] 2 rfl rfl⟩
      ·
        refine wpO_val rfl (x_extractB rfl rfl) ?_
        refine wpO_nil ?_
        refine wpF_seq ?_
        refine wpF_true rfl ?_
        refine wpF_skip ?_
        refine wpF_block ?_   -- block 1
        refine wpF_seq ?_
        refine wpF_region rfl ?_   -- R5
        refine wpO_val rfl (x_entry H 0 rfl rfl) ?_
        refine wpO_val rfl (x_extractA rfl rfl) ?_
        refine wpO_val rfl (x_extractA rfl rfl) ?_
        refine wpO_eff rfl (e_alloc H Tryz.zeroValue27 fun b5 w H => ?_)
        refine wpO_eff rfl (e_alloc H Tryz.zeroValue43 fun b6 w H => ?_)
        refine wpO_eff0 rfl (e_storeAll H 2 rfl Tryz.sizeOf27 rfl rfl rfl rfl rfl fun w H => ?_)
        refine wpO_eff0 rfl (e_storeAll H 3 rfl Tryz.sizeOf43 rfl rfl rfl rfl rfl fun w H => ?_)
        refine wpO_nil ?_
        refine wpF_seq ?_
        refine wpF_region rfl ?_   -- R6
        refine wpO_val rfl (x_moveM rfl) ?_
        refine wpO_val rfl (x_load1 Tryz.isAgg27 Tryz.sizeOf27 rfl (H.getF 2 rfl) rfl) ?_
        refine wpO_val rfl (H.lookupOk (a := p16.1) (z := Own.zero) 1 rfl keyKey Tryz.underlying102 Tryz.zeroValue43 rfl rfl) ?_
        refine wpO_val rfl (x_moveT rfl) ?_
        refine wpO_val rfl (x_extractA rfl rfl) ?_
        refine wpO_val rfl (x_extractB rfl rfl) ?_
        refine wpO_eff rfl (e_alloc H Tryz.zeroValue43 fun b7 w H => ?_)
        refine wpO_eff0 rfl (e_storeAll H 4 rfl Tryz.sizeOf43 rfl rfl rfl rfl rfl fun w H => ?_)
        refine wpO_val rfl (x_assignB rfl) ?_
        refine wpO_nil ?_
        refine wpF_seq ?_
        refine wpF_region rfl ?_   -- R7
        refine wpO_val rfl (x_moveB rfl) ?_
        refine wpO_val rfl (x_not rfl) ?_
        refine wpO_val rfl (x_moveB rfl) ?_
        refine wpO_split 29 rfl (fun hb29 => ?_) (fun hb29 => ?_)
        ·
          refine wpO_not rfl ?_
          refine wpO_not rfl ?_
          refine wpO_not rfl ?_
          refine wpO_val rfl (x_pickB rfl rfl) ?_
          refine wpO_nil ?_
          refine wpF_true rfl ?_
          refine wpF_seq ?_
          refine wpF_region rfl ?_   -- R8
          refine wpO_val rfl (x_assignB rfl) ?_
          refine wpO_nil ?_
          refine wpF_ret ?_
          repeat (with_reducible first | refine thenF_r ?_ | refine inBlockF_r ?_)
          refine end_t rfl rfl ?_   -- tmp:4
          have hk : decide (kget l2 p16.1 = some p16.2) = false := by cases hk : kget l2 p16.1 <;> simp [hk] at hb29 ⊢
          have hE : eqMap l1 l2 = false := by rw [eqMap, hinv.fail hp16 hk]; simp
          exact ⟨by rw [hE]; rfl, Holds.sel (H.itDoneF 0 rfl) [0, 1] 5 rfl rfl⟩
        ·
          refine wpO_val rfl (x_load1 Tryz.isAgg43 Tryz.sizeOf43 rfl (H.getF 3 rfl) rfl) ?_
          refine wpO_val rfl (x_load1 Tryz.isAgg43 Tryz.sizeOf43 rfl (H.getF 4 rfl) rfl) ?_
          refine wpO_val rfl (x_neqE (a := p16.2) (b := (kget l2 p16.1).getD Own.zero) eqOwn (by kernel_rfl) rfl rfl rfl rfl) ?_
          refine wpO_val rfl (x_pickB rfl rfl) ?_
          refine wpO_nil ?_
          refine wpF_cond _ rfl (fun hc => ?_) (fun hc => ?_)   -- t33
          ·
            refine wpF_seq ?_
            refine wpF_region rfl ?_   -- R8
            refine wpO_val rfl (x_assignB rfl) ?_
            refine wpO_nil ?_
            refine wpF_ret ?_
            repeat (with_reducible first | refine thenF_r ?_ | refine inBlockF_r ?_)
            refine end_t rfl rfl ?_   -- tmp:4
            have hk : decide (kget l2 p16.1 = some p16.2) = false := by cases hk : kget l2 p16.1 <;> simp [hk] at hb29 hc ⊢; exact fun e => hc e.symm
            have hE : eqMap l1 l2 = false := by rw [eqMap, hinv.fail hp16 hk]; simp
            exact ⟨by rw [hE]; rfl, Holds.sel (H.itDoneF 0 rfl) [0, 1] 5 rfl rfl⟩
          ·
            refine wpF_skip ?_
            have hk : decide (kget l2 p16.1 = some p16.2) = true := by cases hk : kget l2 p16.1 <;> simp [hk] at hb29 hc ⊢; exact hc.symm
            exact ⟨todo16.length, by rw [hp16.length_eq]; simp, _, todo16, some p16, ⟨rfl, hinv.step hp16 hk⟩, Holds.sel H [0, 1] 5 rfl rfl, updL_eta ⟨rfl, rfl, trivial⟩⟩
-- >> mapsEqualOwn_c
-- << mapsEqualHeld_c
theorem mapsEqualHeld_c {c : Cx} {g : Heap} {w : World} {F : List Asn} {m1 m2 : Nat} {l1 l2 : List (Key × Held)} (H : Holds c g w ([mapA m1 Key.v Held.v l1, mapA m2 Key.v Held.v l2] ++ F)) :
    Calls Tryz.prog 55 #[.map (some m1), .map (some m2)] w (Ret fun v w' => v = .bool (eqMap l1 l2) ∧ Holds c g w' ([mapA m1 Key.v Held.v l1, mapA m2 Key.v Held.v l2] ++ F)) := by
  -- maps.Equal[map[tarmac/api.Key]tarmac/api.Held,map[tarmac/api.Key]tarmac/api.Held,tarmac/api.Key,tarmac/api.Held]  (function 55; params ['103', '103']; results tmp:4; ntmps 34)
  refine calls_of_wpF Tryz.func55 rfl Tryz.ntmps55 rfl ?_
  refine wpF_seq ?_
  refine wpF_region rfl ?_   -- R0
  refine wpO_val rfl (x_assignB rfl) ?_
  refine wpO_nil ?_
  refine wpF_seq ?_
  refine wpF_seq ?_
  refine wpF_region rfl ?_   -- R1
  refine wpO_val rfl (x_moveM rfl) ?_
  refine wpO_val rfl (H.lenMap 0 rfl Tryz.underlying103 rfl) ?_
  refine wpO_val rfl (x_moveM rfl) ?_
  refine wpO_val rfl (H.lenMap 1 rfl Tryz.underlying103 rfl) ?_
  refine wpO_val rfl (x_cmp rfl rfl rfl rfl) ?_
  refine wpO_nil ?_
  refine wpF_cond _ rfl (fun hc => ?_) (fun hc => ?_)   -- t13
  ·
    refine wpF_seq ?_
    refine wpF_region rfl ?_   -- R2
    refine wpO_val rfl (x_assignB rfl) ?_
    refine wpO_nil ?_
    refine wpF_ret ?_
    repeat (with_reducible first | refine thenF_r ?_ | refine inBlockF_r ?_)
    refine end_t rfl rfl ?_   -- tmp:4
    have hlen : ¬ l1.length = l2.length := by simp at hc; omega
    have hE : eqMap l1 l2 = false := by simp [eqMap, hlen]
    exact ⟨by rw [hE]; rfl, H.sel [0, 1] 2 rfl rfl⟩
  ·
    refine wpF_skip ?_
    refine wpF_seq ?_
    refine wpF_seq ?_
    refine wpF_region rfl ?_   -- R3
    refine wpO_val rfl (x_moveM rfl) ?_
    have hlen : l1.length = l2.length := by simp at hc; omega
    refine wpO_eff rfl (e_range H 0 rfl Tryz.underlying103 rfl fun it15 w H => ?_)
    refine wpO_nil ?_
    refine wpF_block ?_   -- block 0
    refine wpF_loop (fun n f w => ∃ (f0 : Fr) (todo : List (Key × Held)) (cur : Option (Key × Held)), (n = todo.length ∧ AllInv (fun p => decide (kget l2 p.1 = some p.2)) l1 todo) ∧ Holds c g w ([mapIt m1 it15 Key.v Held.v l1 todo cur, mapA m2 Key.v Held.v l2] ++ F) ∧ f = updL f0 [(1, .map (some m2)), (15, .pointer (some ⟨it15, 0, none⟩))]) l1.length ?_ ?_
    · exact ⟨_, l1, none, ⟨rfl, .start⟩, H, updL_eta ⟨rfl, rfl, trivial⟩⟩
    · rintro n f w ⟨f0, todo, cur, ⟨rfl, hinv⟩, H, rfl⟩
      refine wpF_seq ?_
      refine wpF_region rfl ?_   -- R4
      refine wpO_eff rfl (e_next H 0 rfl rfl (fun h0 => ?_) (fun p16 todo16 w hp16 H => ?_))
      ·
        refine wpO_val rfl (x_extractB rfl rfl) ?_
        refine wpO_nil ?_
        refine wpF_seq ?_
        refine wpF_false rfl ?_
        refine wpF_exit ?_   -- exit 0
        refine wpF_seq ?_
        refine wpF_region rfl ?_   -- R9
        refine wpO_val rfl (x_assignB rfl) ?_
        refine wpO_nil ?_
        refine wpF_ret ?_
        repeat (with_reducible first | refine thenF_r ?_ | refine inBlockF_r ?_)
        refine end_t rfl rfl ?_   -- tmp:4
        subst h0
        have hE : eqMap l1 l2 = true := by rw [eqMap, hinv.over]; simp [hlen]
        exact ⟨by rw [hE]; rfl, Holds.sel (H.itDoneF 0 rfl) [0, 1] 2 rfl rfl⟩
      ·
        refine wpO_val rfl (x_extractB rfl rfl) ?_
        refine wpO_nil ?_
        refine wpF_seq ?_
        refine wpF_true rfl ?_
        refine wpF_skip ?_
        refine wpF_block ?_   -- block 1
        refine wpF_seq ?_
        refine wpF_region rfl ?_   -- R5
        refine wpO_val rfl (x_entry H 0 rfl rfl) ?_
        refine wpO_val rfl (x_extractA rfl rfl) ?_
        refine wpO_val rfl (x_extractA rfl rfl) ?_
        refine wpO_eff rfl (e_alloc H Tryz.zeroValue27 fun b5 w H => ?_)
        refine wpO_eff rfl (e_alloc H Tryz.zeroValue64 fun b6 w H => ?_)
        refine wpO_eff0 rfl (e_storeAll H 2 rfl Tryz.sizeOf27 rfl rfl rfl rfl rfl fun w H => ?_)
        refine wpO_eff0 rfl (e_storeAll H 3 rfl Tryz.sizeOf64 rfl rfl rfl rfl rfl fun w H => ?_)
        refine wpO_nil ?_
        refine wpF_seq ?_
        refine wpF_region rfl ?_   -- R6
        refine wpO_val rfl (x_moveM rfl) ?_
        refine wpO_val rfl (x_load1 Tryz.isAgg27 Tryz.sizeOf27 rfl (H.getF 2 rfl) rfl) ?_
        refine wpO_val rfl (H.lookupOk (a := p16.1) (z := Held.zero) 1 rfl keyKey Tryz.underlying103 Tryz.zeroValue64 rfl rfl) ?_
        refine wpO_val rfl (x_moveT rfl) ?_
        refine wpO_val rfl (x_extractA rfl rfl) ?_
        refine wpO_val rfl (x_extractB rfl rfl) ?_
        refine wpO_eff rfl (e_alloc H Tryz.zeroValue64 fun b7 w H => ?_)
        refine wpO_eff0 rfl (e_storeAll H 4 rfl Tryz.sizeOf64 rfl rfl rfl rfl rfl fun w H => ?_)
        refine wpO_val rfl (x_assignB rfl) ?_
        refine wpO_nil ?_
        refine wpF_seq ?_
        refine wpF_region rfl ?_   -- R7
        refine wpO_val rfl (x_moveB rfl) ?_
        refine wpO_val rfl (x_not rfl) ?_
        refine wpO_val rfl (x_moveB rfl) ?_
        refine wpO_split 29 rfl (fun hb29 => ?_) (fun hb29 => ?_)
        ·
          refine wpO_not rfl ?_
          refine wpO_not rfl ?_
          refine wpO_not rfl ?_
          refine wpO_val rfl (x_pickB rfl rfl) ?_
          refine wpO_nil ?_
          refine wpF_true rfl ?_
          refine wpF_seq ?_
          refine wpF_region rfl ?_   -- R8
          refine wpO_val rfl (x_assignB rfl) ?_
          refine wpO_nil ?_
          refine wpF_ret ?_
          repeat (with_reducible first | refine thenF_r ?_ | refine inBlockF_r ?_)
          refine end_t rfl rfl ?_   -- tmp:4
          have hk : decide (kget l2 p16.1 = some p16.2) = false := by cases hk : kget l2 p16.1 <;> simp [hk] at hb29 ⊢
          have hE : eqMap l1 l2 = false := by rw [eqMap, hinv.fail hp16 hk]; simp
          exact ⟨by rw [hE]; rfl, Holds.sel (H.itDoneF 0 rfl) [0, 1] 5 rfl rfl⟩
        ·
          refine wpO_val rfl (x_load1 Tryz.isAgg64 Tryz.sizeOf64 rfl (H.getF 3 rfl) rfl) ?_
          refine wpO_val rfl (x_load1 Tryz.isAgg64 Tryz.sizeOf64 rfl (H.getF 4 rfl) rfl) ?_
          refine wpO_val rfl (x_neqE (a := p16.2) (b := (kget l2 p16.1).getD Held.zero) eqHeld (by kernel_rfl) rfl rfl rfl rfl) ?_
          refine wpO_val rfl (x_pickB rfl rfl) ?_
          refine wpO_nil ?_
          refine wpF_cond _ rfl (fun hc => ?_) (fun hc => ?_)   -- t33
          ·
            refine wpF_seq ?_
            refine wpF_region rfl ?_   -- R8
            refine wpO_val rfl (x_assignB rfl) ?_
            refine wpO_nil ?_
            refine wpF_ret ?_
            repeat (with_reducible first | refine thenF_r ?_ | refine inBlockF_r ?_)
            refine end_t rfl rfl ?_   -- tmp:4
            have hk : decide (kget l2 p16.1 = some p16.2) = false := by cases hk : kget l2 p16.1 <;> simp [hk] at hb29 hc ⊢; exact fun e => hc e.symm
            have hE : eqMap l1 l2 = false := by rw [eqMap, hinv.fail hp16 hk]; simp
            exact ⟨by rw [hE]; rfl, Holds.sel (H.itDoneF 0 rfl) [0, 1] 5 rfl rfl⟩
          ·
            refine wpF_skip ?_
            have hk : decide (kget l2 p16.1 = some p16.2) = true := by cases hk : kget l2 p16.1 <;> simp [hk] at hb29 hc ⊢; exact hc.symm
            exact ⟨todo16.length, by rw [hp16.length_eq]; simp, _, todo16, some p16, ⟨rfl, hinv.step hp16 hk⟩, Holds.sel H [0, 1] 5 rfl rfl, updL_eta ⟨rfl, rfl, trivial⟩⟩
-- >> mapsEqualHeld_c
-- << equalFunc_c
theorem equalFunc_c {c : Cx} {g : Heap} {w : World} {F : List Asn} {m1 m2 : Nat} {l1 l2 : List (Ticket × DocP)} {φ φ2 : Ticket → Option DocC} (hφ : DocsR g l1 φ) (hφ2 : DocsR g l2 φ2) (H : Holds c g w ([mapA m1 Ticket.v DocP.v l1, mapA m2 Ticket.v DocP.v l2] ++ F)) :
    Calls Tryz.prog 52 #[.map (some m1), .map (some m2), .func (.func 53) #[] #[]] w
      (Ret fun v w' => v = .bool (eqDocs φ φ2 l1 l2) ∧ Holds c g w' ([mapA m1 Ticket.v DocP.v l1, mapA m2 Ticket.v DocP.v l2] ++ F)) := by
  have hnd := H.keysNodup 0 rfl
  -- maps.EqualFunc[map[tarmac/api.Ticket]tarmac/api.Doc,map[tarmac/api.Ticket]tarmac/api.Doc,tarmac/api.Ticket,tarmac/api.Doc,tarmac/api.Doc]  (function 52; params ['101', '101', '83']; results tmp:6; ntmps 38)
  refine calls_of_wpF Tryz.func52 rfl Tryz.ntmps52 rfl ?_
  refine wpF_seq ?_
  refine wpF_region rfl ?_   -- R0
  refine wpO_val rfl (x_assignB rfl) ?_
  refine wpO_nil ?_
  refine wpF_seq ?_
  refine wpF_seq ?_
  refine wpF_region rfl ?_   -- R1
  refine wpO_val rfl (x_moveM rfl) ?_
  refine wpO_val rfl (H.lenMap 0 rfl Tryz.underlying101 rfl) ?_
  refine wpO_val rfl (x_moveM rfl) ?_
  refine wpO_val rfl (H.lenMap 1 rfl Tryz.underlying101 rfl) ?_
  refine wpO_val rfl (x_cmp rfl rfl rfl rfl) ?_
  refine wpO_nil ?_
  refine wpF_cond _ rfl (fun hc => ?_) (fun hc => ?_)   -- t15
  ·
    refine wpF_seq ?_
    refine wpF_region rfl ?_   -- R2
    refine wpO_val rfl (x_assignB rfl) ?_
    refine wpO_nil ?_
    refine wpF_ret ?_
    repeat (with_reducible first | refine thenF_r ?_ | refine inBlockF_r ?_)
    refine end_t rfl rfl ?_   -- tmp:6
    have hlen : ¬ l1.length = l2.length := by simp at hc; omega
    have hE : eqDocs φ φ2 l1 l2 = false := by simp [eqDocs, hlen]
    exact ⟨by rw [hE]; rfl, H.sel [0, 1] 2 rfl rfl⟩
  ·
    refine wpF_skip ?_
    refine wpF_seq ?_
    refine wpF_seq ?_
    refine wpF_region rfl ?_   -- R3
    refine wpO_val rfl (x_moveM rfl) ?_
    have hlen : l1.length = l2.length := by simp at hc; omega
    refine wpO_eff rfl (e_range H 0 rfl Tryz.underlying101 rfl fun it17 w H => ?_)
    refine wpO_nil ?_
    refine wpF_block ?_   -- block 0
    refine wpF_loop (fun n f w => ∃ (f0 : Fr) (todo : List (Ticket × DocP)) (cur : Option (Ticket × DocP)), (n = todo.length ∧ AllInv (fun p => decide (φ p.1 = φ2 p.1)) l1 todo) ∧ Holds c g w ([mapIt m1 it17 Ticket.v DocP.v l1 todo cur, mapA m2 Ticket.v DocP.v l2] ++ F) ∧ f = updL f0 [(1, .map (some m2)), (2, .func (.func 53) #[] #[]), (17, .pointer (some ⟨it17, 0, none⟩))]) l1.length ?_ ?_
    · exact ⟨_, l1, none, ⟨rfl, .start⟩, H, updL_eta ⟨rfl, rfl, rfl, trivial⟩⟩
    · rintro n f w ⟨f0, todo, cur, ⟨rfl, hinv⟩, H, rfl⟩
      refine wpF_seq ?_
      refine wpF_region rfl ?_   -- R4
      refine wpO_eff rfl (e_next H 0 rfl rfl (fun h0 => ?_) (fun p18 todo18 w hp18 H => ?_))
      ·
        refine wpO_val rfl (x_extractB rfl rfl) ?_
        refine wpO_nil ?_
        refine wpF_seq ?_
        refine wpF_false rfl ?_
        refine wpF_exit ?_   -- exit 0
        refine wpF_seq ?_
        refine wpF_region rfl ?_   -- R9
        refine wpO_val rfl (x_assignB rfl) ?_
        refine wpO_nil ?_
        refine wpF_ret ?_
        repeat (with_reducible first | refine thenF_r ?_ | refine inBlockF_r ?_)
        refine end_t rfl rfl ?_   -- tmp:6
        subst h0
        have hE : eqDocs φ φ2 l1 l2 = true := by rw [eqDocs, hinv.over]; simp [hlen]
        exact ⟨by rw [hE]; rfl, Holds.sel (H.itDoneF 0 rfl) [0, 1] 2 rfl rfl⟩
      ·
        refine wpO_val rfl (x_extractB rfl rfl) ?_
        refine wpO_nil ?_
        refine wpF_seq ?_
        have hk1 : kget l1 p18.1 = some p18.2 := mem_kget hnd (hinv.mem (hp18.mem_iff.2 (List.mem_cons_self ..)))
        obtain ⟨C, hC, hdoc⟩ := DocM.some (by rw [← hk1]; exact hφ p18.1)
        refine wpF_true rfl ?_
        refine wpF_skip ?_
        refine wpF_block ?_   -- block 1
        refine wpF_seq ?_
        refine wpF_region rfl ?_   -- R5
        refine wpO_val rfl (x_entry H 0 rfl rfl) ?_
        refine wpO_val rfl (x_extractA rfl rfl) ?_
        refine wpO_val rfl (x_extractA rfl rfl) ?_
        refine wpO_eff rfl (e_alloc H Tryz.zeroValue25 fun b7 w H => ?_)
        refine wpO_eff rfl (e_alloc H Tryz.zeroValue62 fun b8 w H => ?_)
        refine wpO_eff0 rfl (e_storeAll H 2 rfl Tryz.sizeOf25 rfl rfl rfl rfl rfl fun w H => ?_)
        refine wpO_eff0 rfl (e_storeAll (v := p18.2.v) H 3 rfl Tryz.sizeOf62 rfl rfl rfl rfl (by kernel_rfl) fun w H => ?_)
        refine wpO_nil ?_
        refine wpF_seq ?_
        refine wpF_region rfl ?_   -- R6
        refine wpO_val rfl (x_moveM rfl) ?_
        refine wpO_val rfl (x_load1 Tryz.isAgg25 Tryz.sizeOf25 rfl (H.getF 2 rfl) rfl) ?_
        refine wpO_val rfl (H.lookupOk (a := p18.1) (z := DocP.zero) 1 rfl keyTicket Tryz.underlying101 Tryz.zeroValue62 rfl rfl) ?_
        refine wpO_val rfl (x_moveT rfl) ?_
        refine wpO_val rfl (x_extractA rfl rfl) ?_
        refine wpO_val rfl (x_extractB rfl rfl) ?_
        refine wpO_eff rfl (e_alloc H Tryz.zeroValue62 fun b9 w H => ?_)
        refine wpO_eff0 rfl (e_storeAll (v := ((kget l2 p18.1).getD DocP.zero).v) H 4 rfl Tryz.sizeOf62 rfl rfl rfl rfl (by kernel_rfl) fun w H => ?_)
        refine wpO_val rfl (x_assignB rfl) ?_
        refine wpO_nil ?_
        refine wpF_seq ?_
        refine wpF_region rfl ?_   -- R7
        refine wpO_val rfl (x_moveB rfl) ?_
        refine wpO_val rfl (x_not rfl) ?_
        refine wpO_val rfl (x_moveB rfl) ?_
        refine wpO_split 31 rfl (fun hb31 => ?_) (fun hb31 => ?_)
        ·
          refine wpO_not rfl ?_
          refine wpO_not rfl ?_
          refine wpO_not rfl ?_
          refine wpO_not rfl ?_
          refine wpO_not rfl ?_
          refine wpO_val rfl (x_pickB rfl rfl) ?_
          refine wpO_nil ?_
          refine wpF_true rfl ?_
          refine wpF_seq ?_
          refine wpF_region rfl ?_   -- R8
          refine wpO_val rfl (x_assignB rfl) ?_
          refine wpO_nil ?_
          refine wpF_ret ?_
          repeat (with_reducible first | refine thenF_r ?_ | refine inBlockF_r ?_)
          refine end_t rfl rfl ?_   -- tmp:6
          have hk : decide (φ p18.1 = φ2 p18.1) = false := by
            have h2 := hφ2 p18.1
            rw [hC]
            cases hk : kget l2 p18.1 <;> simp [hk] at hb31 h2 ⊢
            intro e
            rw [← e] at h2
            exact h2.elim
          have hE : eqDocs φ φ2 l1 l2 = false := by rw [eqDocs, hinv.fail hp18 hk]; simp
          exact ⟨by rw [hE]; rfl, Holds.sel (H.itDoneF 0 rfl) [0, 1] 5 rfl rfl⟩
        ·
          obtain ⟨d2, hd2⟩ : ∃ d2, kget l2 p18.1 = some d2 := by cases hk : kget l2 p18.1 <;> simp [hk] at hb31 ⊢
          obtain ⟨C2, hC2, hdoc2⟩ := DocM.some (by rw [← hd2]; exact hφ2 p18.1)
          have hload : ((kget l2 p18.1).getD DocP.zero) = d2 := by rw [hd2]; rfl
          rw [hload] at H
          refine wpO_val rfl (x_moveF rfl) ?_
          refine wpO_val rfl (x_load1V p18.2.v Tryz.isAgg62 Tryz.sizeOf62 rfl (H.getF 3 rfl) (by kernel_rfl) (by kernel_rfl)) ?_
          refine wpO_val rfl (x_load1V d2.v Tryz.isAgg62 Tryz.sizeOf62 rfl (H.getF 4 rfl) (by kernel_rfl) (by kernel_rfl)) ?_
          refine wpO_eff rfl (e_call (fi := #[]) (ca := #[]) (vs := [p18.2.v, d2.v]) rfl Tryz.call53 rfl ((alike_c p18.2 d2 hdoc.r hdoc2.r hdoc.hl hdoc.ht hdoc.hv H).mono (Ret.mono ?_)))
          rintro v35 w ⟨rfl, H'⟩
          replace H := H.re H' rfl
          refine wpO_val rfl (x_not rfl) ?_
          refine wpO_val rfl (x_pickB rfl rfl) ?_
          rw [sameDoc_is hdoc hdoc2] at *
          refine wpO_nil ?_
          refine wpF_cond _ rfl (fun hc => ?_) (fun hc => ?_)   -- t37
          ·
            refine wpF_seq ?_
            refine wpF_region rfl ?_   -- R8
            refine wpO_val rfl (x_assignB rfl) ?_
            refine wpO_nil ?_
            refine wpF_ret ?_
            repeat (with_reducible first | refine thenF_r ?_ | refine inBlockF_r ?_)
            refine end_t rfl rfl ?_   -- tmp:6
            have hk : decide (φ p18.1 = φ2 p18.1) = false := by rw [hC, hC2]; simpa using hc
            have hE : eqDocs φ φ2 l1 l2 = false := by rw [eqDocs, hinv.fail hp18 hk]; simp
            exact ⟨by rw [hE]; rfl, Holds.sel (H.itDoneF 0 rfl) [0, 1] 5 rfl rfl⟩
          ·
            refine wpF_skip ?_
            have hk : decide (φ p18.1 = φ2 p18.1) = true := by rw [hC, hC2]; simpa using hc
            exact ⟨todo18.length, by rw [hp18.length_eq]; simp, _, todo18, some p18, ⟨rfl, hinv.step hp18 hk⟩, Holds.sel H [0, 1] 5 rfl rfl, updL_eta ⟨rfl, rfl, rfl, trivial⟩⟩
-- >> equalFunc_c
/-- Have two books the same? -/
def bkSame (φ φ2 : Ticket → Option DocC) (B B2 : Bk) : Bool := (B.self.n == B2.self.n) && (B.n.n == B2.n.n) && eqDocs φ φ2 B.docs B2.docs && eqMap B.owns B2.owns && eqMap B.helds B2.helds
-- << bSame_c
theorem bSame_c {c : Cx} {g : Heap} {w : World} {F : List Asn} {b b2 : Nat} (B B2 : Bk) {φ φ2 : Ticket → Option DocC} (hφ : DocsR g B.docs φ) (hφ2 : DocsR g B2.docs φ2) (H : Holds c g w ((B.L b ++ B2.L b2) ++ F)) :
    Calls Tryz.prog 12 #[.pointer (some ⟨b, 0, none⟩), .pointer (some ⟨b2, 0, none⟩)] w (Ret fun v w' => v = .bool (bkSame φ φ2 B B2) ∧ Holds c g w' ((B.L b ++ B2.L b2) ++ F)) := by
  -- (*tarmac/book.Book).Same  (function 12; params ['37', '37']; results tmp:4; ntmps 67)
  refine calls_of_wpF Tryz.func12 rfl Tryz.ntmps12 rfl ?_
  refine wpF_seq ?_
  refine wpF_region rfl ?_   -- R0
  refine wpO_val rfl (x_assignB rfl) ?_
  refine wpO_nil ?_
  refine wpF_seq ?_
  refine wpF_seq ?_
  refine wpF_region rfl ?_   -- R1
  refine wpO_val rfl (x_moveP rfl) ?_
  refine wpO_val rfl (x_eqlNil Tryz.underlying37 rfl rfl) ?_
  refine wpO_val rfl (x_moveB rfl) ?_
  refine wpO_val rfl (x_moveP rfl) ?_
  refine wpO_val rfl (x_eqlNil Tryz.underlying37 rfl rfl) ?_
  refine wpO_val rfl (x_pickB rfl rfl) ?_
  refine wpO_nil ?_
  refine wpF_false rfl ?_
  refine wpF_skip ?_
  refine wpF_seq ?_
  refine wpF_drawC [0, 1, 2, 3, 4, 5, 6, 7, 8, 9, 10, 11, 12, 13, 14, 15, 16, 17, 18, 19, 20, 21, 22, 23, 24, 25, 26, 27, 28, 29, 30, 31, 32, 33, 34, 35, 36, 37, 38, 39, 40, 41, 42, 43, 44, 45, 46, 47, 48, 49, 50, 51, 52, 53] [29, 40, 51] [0, 0, 0, 0, 0, 0, 0, 0, 0, 0, 0, 0, 0, 0, 0, 0, 0, 0, 0, 0, 0, 0, 0, 0, 0, 0, 0, 0, 0, 3, 1, 1, 1, 1, 1, 1, 1, 1, 1, 1, 3, 2, 2, 2, 2, 2, 2, 2, 2, 2, 2, 3, 3, 3] (RH 2 c (B.L b ++ B2.L b2)) mixed (by kernel_rfl) rfl fun w hw => ?_
  have H := H.to hw
  have H0 := H.has
  refine wpDC_e rfl rfl rfl rfl (x_moveP rfl) ?_
  refine wpDC_e rfl rfl rfl rfl (x_nilCheck rfl) ?_
  refine wpDC_e rfl rfl rfl rfl (x_fieldAddrN Tryz.underlying105 rfl Tryz.sizeOf5 rfl rfl) ?_
  refine wpDC_e rfl rfl rfl rfl (x_load0bI Tryz.isAgg5 rfl (H.getF 0 rfl) rfl) ?_
  refine wpDC_e rfl rfl rfl rfl (x_moveP rfl) ?_
  refine wpDC_e rfl rfl rfl rfl (x_nilCheck rfl) ?_
  refine wpDC_e rfl rfl rfl rfl (x_fieldAddrN Tryz.underlying105 rfl Tryz.sizeOf5 rfl rfl) ?_
  refine wpDC_e rfl rfl rfl rfl (x_load0bI Tryz.isAgg5 rfl (H.getF 4 rfl) rfl) ?_
  refine wpDC_e rfl rfl rfl rfl (x_cmp rfl rfl rfl rfl) ?_
  refine wpDC_e rfl rfl rfl rfl (x_moveB rfl) ?_
  refine wpDC_split 23 rfl (fun hb23 => ?_) (fun hb23 => ?_)
  ·
    refine wpDC_e rfl rfl rfl rfl (x_moveP rfl) ?_
    refine wpDC_e rfl rfl rfl rfl (x_nilCheck rfl) ?_
    refine wpDC_e rfl rfl rfl rfl (x_fieldAddrN Tryz.underlying105 rfl Tryz.sizeOf3 rfl rfl) ?_
    refine wpDC_e rfl rfl rfl rfl (x_load0bI Tryz.isAgg3 rfl (H.getF 0 rfl) rfl) ?_
    refine wpDC_e rfl rfl rfl rfl (x_moveP rfl) ?_
    refine wpDC_e rfl rfl rfl rfl (x_nilCheck rfl) ?_
    refine wpDC_e rfl rfl rfl rfl (x_fieldAddrN Tryz.underlying105 rfl Tryz.sizeOf3 rfl rfl) ?_
    refine wpDC_e rfl rfl rfl rfl (x_load0bI Tryz.isAgg3 rfl (H.getF 4 rfl) rfl) ?_
    refine wpDC_e rfl rfl rfl rfl (x_cmp rfl rfl rfl rfl) ?_
    refine wpDC_e rfl rfl rfl rfl (x_pickB rfl rfl) ?_
    refine wpDC_e rfl rfl rfl rfl (x_moveB rfl) ?_
    refine wpDC_split 34 rfl (fun hb34 => ?_) (fun hb34 => ?_)
    ·
      refine wpDC_e rfl rfl rfl rfl (x_moveP rfl) ?_
      refine wpDC_e rfl rfl rfl rfl (x_nilCheck rfl) ?_
      refine wpDC_e rfl rfl rfl rfl (x_fieldAddrN Tryz.underlying105 rfl Tryz.sizeOf101 rfl rfl) ?_
      refine wpDC_e rfl rfl rfl rfl (x_load0bM Tryz.isAgg101 rfl (H.getF 0 rfl) rfl) ?_
      refine wpDC_e rfl rfl rfl rfl (x_moveP rfl) ?_
      refine wpDC_e rfl rfl rfl rfl (x_nilCheck rfl) ?_
      refine wpDC_e rfl rfl rfl rfl (x_fieldAddrN Tryz.underlying105 rfl Tryz.sizeOf101 rfl rfl) ?_
      refine wpDC_e rfl rfl rfl rfl (x_load0bM Tryz.isAgg101 rfl (H.getF 4 rfl) rfl) ?_
      refine wpDC_eff rfl rfl rfl (e_callF (vs := [.map (some B.md), .map (some B2.md), .func (.func 53) #[] #[]]) Tryz.call52 rfl ((equalFunc_c (F := [pt b (bkO B.self B.n B.md B.mo B.mh), mapA B.mo Key.v Own.v B.owns, mapA B.mh Key.v Held.v B.helds, pt b2 (bkO B2.self B2.n B2.md B2.mo B2.mh), mapA B2.mo Key.v Own.v B2.owns, mapA B2.mh Key.v Held.v B2.helds] ++ F) hφ hφ2 (Holds.sel (L := B.L b ++ B2.L b2) H [1, 5, 0, 2, 3, 4, 6, 7] 8 rfl rfl)).mono (Ret.mono ?_)))
      rintro v43 w ⟨rfl, H'⟩
      replace H : Holds c g w ((B.L b ++ B2.L b2) ++ F) := Holds.sel (L := [_, _, _, _, _, _, _, _]) H' [2, 0, 3, 4, 5, 1, 6, 7] 8 rfl rfl
      refine ⟨fun _ => H.has, ?_⟩
      refine wpDC_q rfl rfl rfl (fun w => (x_pickB rfl rfl)) ?_
      refine wpDC_q rfl rfl rfl (fun w => (x_moveB rfl)) ?_
      refine wpDC_split 45 rfl (fun hb45 => ?_) (fun hb45 => ?_)
      ·
        refine wpDC_q rfl rfl rfl (fun w => (x_moveP rfl)) ?_
        refine wpDC_q rfl rfl rfl (fun w => (x_nilCheck rfl)) ?_
        refine wpDC_q rfl rfl rfl (fun w => (x_fieldAddrN Tryz.underlying105 rfl Tryz.sizeOf102 rfl rfl)) ?_
        refine wpDC_h rfl rfl rfl rfl rfl H0 (fun w HR => (x_load0bM Tryz.isAgg102 rfl (HR.get 0 rfl) rfl)) ?_
        refine wpDC_q rfl rfl rfl (fun w => (x_moveP rfl)) ?_
        refine wpDC_q rfl rfl rfl (fun w => (x_nilCheck rfl)) ?_
        refine wpDC_q rfl rfl rfl (fun w => (x_fieldAddrN Tryz.underlying105 rfl Tryz.sizeOf102 rfl rfl)) ?_
        refine wpDC_h rfl rfl rfl rfl rfl H0 (fun w HR => (x_load0bM Tryz.isAgg102 rfl (HR.get 4 rfl) rfl)) ?_
        refine wpDC_eff rfl rfl rfl (e_callF (vs := [.map (some B.mo), .map (some B2.mo)]) Tryz.call54 rfl ((mapsEqualOwn_c (F := [pt b (bkO B.self B.n B.md B.mo B.mh), mapA B.md Ticket.v DocP.v B.docs, mapA B.mh Key.v Held.v B.helds, pt b2 (bkO B2.self B2.n B2.md B2.mo B2.mh), mapA B2.md Ticket.v DocP.v B2.docs, mapA B2.mh Key.v Held.v B2.helds] ++ F) (Holds.sel (L := B.L b ++ B2.L b2) H [2, 6, 0, 1, 3, 4, 5, 7] 8 rfl rfl)).mono (Ret.mono ?_)))
        rintro v54 w ⟨rfl, H'⟩
        replace H : Holds c g w ((B.L b ++ B2.L b2) ++ F) := Holds.sel (L := [_, _, _, _, _, _, _, _]) H' [2, 3, 0, 4, 5, 6, 1, 7] 8 rfl rfl
        refine ⟨fun _ => H.has, ?_⟩
        refine wpDC_q rfl rfl rfl (fun w => (x_pickB rfl rfl)) ?_
        refine wpDC_q rfl rfl rfl (fun w => (x_moveB rfl)) ?_
        refine wpDC_split 56 rfl (fun hb56 => ?_) (fun hb56 => ?_)
        ·
          refine wpDC_q rfl rfl rfl (fun w => (x_moveP rfl)) ?_
          refine wpDC_q rfl rfl rfl (fun w => (x_nilCheck rfl)) ?_
          refine wpDC_q rfl rfl rfl (fun w => (x_fieldAddrN Tryz.underlying105 rfl Tryz.sizeOf103 rfl rfl)) ?_
          refine wpDC_h rfl rfl rfl rfl rfl H0 (fun w HR => (x_load0bM Tryz.isAgg103 rfl (HR.get 0 rfl) rfl)) ?_
          refine wpDC_q rfl rfl rfl (fun w => (x_moveP rfl)) ?_
          refine wpDC_q rfl rfl rfl (fun w => (x_nilCheck rfl)) ?_
          refine wpDC_q rfl rfl rfl (fun w => (x_fieldAddrN Tryz.underlying105 rfl Tryz.sizeOf103 rfl rfl)) ?_
          refine wpDC_h rfl rfl rfl rfl rfl H0 (fun w HR => (x_load0bM Tryz.isAgg103 rfl (HR.get 4 rfl) rfl)) ?_
          refine wpDC_eff rfl rfl rfl (e_callF (vs := [.map (some B.mh), .map (some B2.mh)]) Tryz.call55 rfl ((mapsEqualHeld_c (F := [pt b (bkO B.self B.n B.md B.mo B.mh), mapA B.md Ticket.v DocP.v B.docs, mapA B.mo Key.v Own.v B.owns, pt b2 (bkO B2.self B2.n B2.md B2.mo B2.mh), mapA B2.md Ticket.v DocP.v B2.docs, mapA B2.mo Key.v Own.v B2.owns] ++ F) (Holds.sel (L := B.L b ++ B2.L b2) H [3, 7, 0, 1, 2, 4, 5, 6] 8 rfl rfl)).mono (Ret.mono ?_)))
          rintro v65 w ⟨rfl, H'⟩
          replace H : Holds c g w ((B.L b ++ B2.L b2) ++ F) := Holds.sel (L := [_, _, _, _, _, _, _, _]) H' [2, 3, 4, 0, 5, 6, 7, 1] 8 rfl rfl
          refine ⟨fun h => absurd h (by decide), ?_⟩
          refine wpDC_q rfl rfl rfl (fun w => (x_pickB rfl rfl)) ?_
          refine wpDC_q rfl rfl rfl (fun w => (x_assignB rfl)) ?_
          refine wpDC_nil ?_
          refine wpF_ret ?_
          repeat (with_reducible first | refine thenF_r ?_ | refine inBlockF_r ?_)
          refine end_t rfl rfl ?_   -- tmp:4
          have hE : bkSame φ φ2 B B2 = eqMap B.helds B2.helds := by rw [bkSame, hb23, hb34, hb45, hb56]; rfl
          exact ⟨by rw [hE]; rfl, H⟩
        ·
          refine wpDC_not rfl rfl rfl ?_
          refine wpDC_not rfl rfl rfl ?_
          refine wpDC_not rfl rfl rfl ?_
          refine wpDC_not rfl rfl rfl ?_
          refine wpDC_not rfl rfl rfl ?_
          refine wpDC_not rfl rfl rfl ?_
          refine wpDC_not rfl rfl rfl ?_
          refine wpDC_not rfl rfl rfl ?_
          refine wpDC_notE rfl rfl rfl (fun h => absurd h (by decide)) ?_
          refine wpDC_q rfl rfl rfl (fun w => (x_pickB rfl rfl)) ?_
          refine wpDC_q rfl rfl rfl (fun w => (x_assignB rfl)) ?_
          refine wpDC_nil ?_
          refine wpF_ret ?_
          repeat (with_reducible first | refine thenF_r ?_ | refine inBlockF_r ?_)
          refine end_t rfl rfl ?_   -- tmp:4
          have hE : bkSame φ φ2 B B2 = false := by rw [bkSame, hb56]; simp
          exact ⟨by rw [hE]; rfl, H⟩
      ·
        refine wpDC_not rfl rfl rfl ?_
        refine wpDC_not rfl rfl rfl ?_
        refine wpDC_not rfl rfl rfl ?_
        refine wpDC_not rfl rfl rfl ?_
        refine wpDC_not rfl rfl rfl ?_
        refine wpDC_not rfl rfl rfl ?_
        refine wpDC_not rfl rfl rfl ?_
        refine wpDC_not rfl rfl rfl ?_
        refine wpDC_notE rfl rfl rfl (fun _ => H.has) ?_
        refine wpDC_q rfl rfl rfl (fun w => (x_pickB rfl rfl)) ?_
        refine wpDC_q rfl rfl rfl (fun w => (x_moveB rfl)) ?_
        refine wpDC_not rfl rfl rfl ?_
        refine wpDC_not rfl rfl rfl ?_
        refine wpDC_not rfl rfl rfl ?_
        refine wpDC_not rfl rfl rfl ?_
        refine wpDC_not rfl rfl rfl ?_
        refine wpDC_not rfl rfl rfl ?_
        refine wpDC_not rfl rfl rfl ?_
        refine wpDC_not rfl rfl rfl ?_
        refine wpDC_notE rfl rfl rfl (fun h => absurd h (by decide)) ?_
        refine wpDC_q rfl rfl rfl (fun w => (x_pickB rfl rfl)) ?_
        refine wpDC_q rfl rfl rfl (fun w => (x_assignB rfl)) ?_
        refine wpDC_nil ?_
        refine wpF_ret ?_
        repeat (with_reducible first | refine thenF_r ?_ | refine inBlockF_r ?_)
        refine end_t rfl rfl ?_   -- tmp:4
        have hE : bkSame φ φ2 B B2 = false := by rw [bkSame, hb45]; simp
        exact ⟨by rw [hE]; rfl, H⟩
    ·
      refine wpDC_not rfl rfl rfl ?_
      refine wpDC_not rfl rfl rfl ?_
      refine wpDC_not rfl rfl rfl ?_
      refine wpDC_not rfl rfl rfl ?_
      refine wpDC_not rfl rfl rfl ?_
      refine wpDC_not rfl rfl rfl ?_
      refine wpDC_not rfl rfl rfl ?_
      refine wpDC_not rfl rfl rfl ?_
      refine wpDC_notE rfl rfl rfl (fun _ => H.has) ?_
      refine wpDC_q rfl rfl rfl (fun w => (x_pickB rfl rfl)) ?_
      refine wpDC_q rfl rfl rfl (fun w => (x_moveB rfl)) ?_
      refine wpDC_not rfl rfl rfl ?_
      refine wpDC_not rfl rfl rfl ?_
      refine wpDC_not rfl rfl rfl ?_
      refine wpDC_not rfl rfl rfl ?_
      refine wpDC_not rfl rfl rfl ?_
      refine wpDC_not rfl rfl rfl ?_
      refine wpDC_not rfl rfl rfl ?_
      refine wpDC_not rfl rfl rfl ?_
      refine wpDC_notE rfl rfl rfl (fun _ => H.has) ?_
      refine wpDC_q rfl rfl rfl (fun w => (x_pickB rfl rfl)) ?_
      refine wpDC_q rfl rfl rfl (fun w => (x_moveB rfl)) ?_
      refine wpDC_not rfl rfl rfl ?_
      refine wpDC_not rfl rfl rfl ?_
      refine wpDC_not rfl rfl rfl ?_
      refine wpDC_not rfl rfl rfl ?_
      refine wpDC_not rfl rfl rfl ?_
      refine wpDC_not rfl rfl rfl ?_
      refine wpDC_not rfl rfl rfl ?_
      refine wpDC_not rfl rfl rfl ?_
      refine wpDC_notE rfl rfl rfl (fun h => absurd h (by decide)) ?_
      refine wpDC_q rfl rfl rfl (fun w => (x_pickB rfl rfl)) ?_
      refine wpDC_q rfl rfl rfl (fun w => (x_assignB rfl)) ?_
      refine wpDC_nil ?_
      refine wpF_ret ?_
      repeat (with_reducible first | refine thenF_r ?_ | refine inBlockF_r ?_)
      refine end_t rfl rfl ?_   -- tmp:4
      have hE : bkSame φ φ2 B B2 = false := by rw [bkSame, hb34]; simp
      exact ⟨by rw [hE]; rfl, H⟩
  ·
    refine wpDC_not rfl rfl rfl ?_
    refine wpDC_not rfl rfl rfl ?_
    refine wpDC_not rfl rfl rfl ?_
    refine wpDC_not rfl rfl rfl ?_
    refine wpDC_not rfl rfl rfl ?_
    refine wpDC_not rfl rfl rfl ?_
    refine wpDC_not rfl rfl rfl ?_
    refine wpDC_not rfl rfl rfl ?_
    refine wpDC_not rfl rfl rfl ?_
    refine wpDC_e rfl rfl rfl rfl (x_pickB rfl rfl) ?_
    refine wpDC_e rfl rfl rfl rfl (x_moveB rfl) ?_
    refine wpDC_not rfl rfl rfl ?_
    refine wpDC_not rfl rfl rfl ?_
    refine wpDC_not rfl rfl rfl ?_
    refine wpDC_not rfl rfl rfl ?_
    refine wpDC_not rfl rfl rfl ?_
    refine wpDC_not rfl rfl rfl ?_
    refine wpDC_not rfl rfl rfl ?_
    refine wpDC_not rfl rfl rfl ?_
    refine wpDC_notE rfl rfl rfl (fun _ => H.has) ?_
    refine wpDC_q rfl rfl rfl (fun w => (x_pickB rfl rfl)) ?_
    refine wpDC_q rfl rfl rfl (fun w => (x_moveB rfl)) ?_
    refine wpDC_not rfl rfl rfl ?_
    refine wpDC_not rfl rfl rfl ?_
    refine wpDC_not rfl rfl rfl ?_
    refine wpDC_not rfl rfl rfl ?_
    refine wpDC_not rfl rfl rfl ?_
    refine wpDC_not rfl rfl rfl ?_
    refine wpDC_not rfl rfl rfl ?_
    refine wpDC_not rfl rfl rfl ?_
    refine wpDC_notE rfl rfl rfl (fun _ => H.has) ?_
    refine wpDC_q rfl rfl rfl (fun w => (x_pickB rfl rfl)) ?_
    refine wpDC_q rfl rfl rfl (fun w => (x_moveB rfl)) ?_
    refine wpDC_not rfl rfl rfl ?_
    refine wpDC_not rfl rfl rfl ?_
    refine wpDC_not rfl rfl rfl ?_
    refine wpDC_not rfl rfl rfl ?_
    refine wpDC_not rfl rfl rfl ?_
    refine wpDC_not rfl rfl rfl ?_
    refine wpDC_not rfl rfl rfl ?_
    refine wpDC_not rfl rfl rfl ?_
    refine wpDC_notE rfl rfl rfl (fun h => absurd h (by decide)) ?_
    refine wpDC_q rfl rfl rfl (fun w => (x_pickB rfl rfl)) ?_
    refine wpDC_q rfl rfl rfl (fun w => (x_assignB rfl)) ?_
    refine wpDC_nil ?_
    refine wpF_ret ?_
    repeat (with_reducible first | refine thenF_r ?_ | refine inBlockF_r ?_)
    refine end_t rfl rfl ?_   -- tmp:4
    have hE : bkSame φ φ2 B B2 = false := by rw [bkSame, hb23]; simp
    exact ⟨by rw [hE]; rfl, H⟩
-- >> bSame_c
end Go.Proofs.YtfoginganpgmcaaGreat
