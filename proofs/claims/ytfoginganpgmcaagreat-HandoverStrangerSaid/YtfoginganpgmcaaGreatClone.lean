/- slices.Clone at three types. -/
import Derived.Test.YtfoginganpgmcaaGreatCoreR
import Derived.Test.YtfoginganpgmcaaGreatDocs
set_option linter.unusedSimpArgs false
set_option linter.unusedVariables false
namespace Go.Proofs.YtfoginganpgmcaaGreat
open Go Go.Tw
set_option maxRecDepth 100000
theorem isLeg : El Tryz.prog 31 3 8 (.agg #[.int .u8 0, .int .u16 0, .int .u32 0]) := ⟨⟨Tryz.t31, by kernel_rfl, rfl, rfl, rfl⟩, rfl, by decide⟩
theorem isTax : El Tryz.prog 158 2 24 (.agg #[strV [], .int .i64 0]) := ⟨⟨Tryz.t158, by kernel_rfl, rfl, rfl, rfl⟩, rfl, by decide⟩

-- << cloneLeg_c
theorem cloneLeg_c {c : Cx} {g : Heap} {w : World} {F : List Asn} {s : Sl} {xs : List Leg} (hs : SlR g Leg.v 3 s xs) (hl : xs.length ≤ 1000000) (H : Holds c g w F) :
    Calls Tryz.prog 85 #[s.v] w (Ret fun v w' => ∃ s' g', v = s'.v ∧ Le g g' ∧ SlR g' Leg.v 3 s' xs ∧ Holds c g' w' F) := by
  have H : Holds c g w ([] ++ F) := H
  have hlen := hs.len
  -- slices.Clone[[]tarmac/api.Leg,tarmac/api.Leg]  (function 141; params ['56']; results tmp:2; ntmps 8)
  refine calls_of_wpF Tryz.func85 rfl Tryz.ntmps85 rfl ?_
  refine wpF_seq ?_
  refine wpF_region rfl ?_   -- R0
  refine wpO_val rfl (x_assignL rfl) ?_
  refine wpO_nil ?_
  refine wpF_seq ?_
  refine wpF_seq ?_
  refine wpF_region rfl ?_   -- R1
  refine wpO_val rfl (x_moveL rfl) ?_
  refine wpO_val rfl (x_eqlSlNil Tryz.underlying56 rfl rfl) ?_
  refine wpO_nil ?_
  refine wpF_cond _ rfl (fun hc => ?_) (fun hc => ?_)
  ·
    have ha : s.a = none := Option.isNone_iff_eq_none.1 hc
    have hz : xs = [] := by
      cases xs with
      | nil => rfl
      | cons y r => obtain ⟨b, o, h⟩ := hs.isSome (i := 0) (by simp); rw [h] at ha; cases ha
    subst hz
    refine wpF_seq ?_
    refine wpF_region rfl ?_   -- R2
    refine wpO_val rfl (x_assignL rfl) ?_
    refine wpO_nil ?_
    refine wpF_ret ?_
    repeat (with_reducible first | refine thenF_r ?_ | refine inBlockF_r ?_)
    refine end_t rfl rfl ?_   -- tmp:2
    exact ⟨Sl.nil, g, rfl, Le.refl g, SlR.zero, H⟩
  ·
    obtain ⟨a, ha⟩ : ∃ a, s.a = some a := by cases h : s.a with | none => rw [h] at hc; cases hc | some a => exact ⟨a, rfl⟩
    refine wpF_skip ?_
    refine wpF_seq ?_
    refine wpF_region rfl ?_   -- R3
    refine wpO_eff rfl (e_buildSlice H Tryz.underlying56 Tryz.sizeOf31 Tryz.zeroValue31 rfl rfl (vs := []) rfl rfl (cs := []) rfl fun b5 w H => ?_)
    have H := H.toRowAt (m := 3) (n := 0) 0 rfl rfl
    refine wpO_val rfl (x_moveL rfl) ?_
    refine wpO_eff rfl (e_append (news := flat Leg.v xs) (a := a) H 0 rfl Tryz.underlying56 isLeg rfl (by show Value.slice s.a s.len s.cap = _; rw [ha]) (by rw [hlen]; exact flat_len (fun y _ => elLeg.cell y)) (hs.cells elLeg.cell H ha) (by unfold flat; rw [List.all_eq_true]; intro v hv; obtain ⟨y, _, hy⟩ := List.mem_flatMap.1 hv; exact List.all_eq_true.1 (elLeg.one y) v hy) (by show (0 + s.len) * _ ≤ _; omega) (by show 0 + s.len ≤ _; omega) fun s7 w hs7 hn7 H => ?_)
    refine wpO_val rfl (x_assignL rfl) ?_
    refine wpO_nil ?_
    refine wpF_ret ?_
    repeat (with_reducible first | refine thenF_r ?_ | refine inBlockF_r ?_)
    obtain ⟨g', hle, H, hr⟩ := Holds.sealRow (enc := Leg.v) (xs := xs) H (by simp [flat]) (fun y _ => elLeg.cell y) (by decide)
    refine end_t rfl rfl ?_
    exact ⟨s7, g', rfl, hle, hr, H⟩
-- >> cloneLeg_c
-- << cloneTax_c
theorem cloneTax_c {c : Cx} {g : Heap} {w : World} {F : List Asn} {s : Sl} {xs : List Tax} (hs : SlR g Tax.v 2 s xs) (hl : xs.length ≤ 1000000) (H : Holds c g w F) :
    Calls Tryz.prog 86 #[s.v] w (Ret fun v w' => ∃ s' g', v = s'.v ∧ Le g g' ∧ SlR g' Tax.v 2 s' xs ∧ Holds c g' w' F) := by
  have H : Holds c g w ([] ++ F) := H
  have hlen := hs.len
  -- slices.Clone[[]tarmac/api.Tax,tarmac/api.Tax]  (function 142; params ['57']; results tmp:2; ntmps 8)
  refine calls_of_wpF Tryz.func86 rfl Tryz.ntmps86 rfl ?_
  refine wpF_seq ?_
  refine wpF_region rfl ?_   -- R0
  refine wpO_val rfl (x_assignL rfl) ?_
  refine wpO_nil ?_
  refine wpF_seq ?_
  refine wpF_seq ?_
  refine wpF_region rfl ?_   -- R1
  refine wpO_val rfl (x_moveL rfl) ?_
  refine wpO_val rfl (x_eqlSlNil Tryz.underlying57 rfl rfl) ?_
  refine wpO_nil ?_
  refine wpF_cond _ rfl (fun hc => ?_) (fun hc => ?_)
  ·
    have ha : s.a = none := Option.isNone_iff_eq_none.1 hc
    have hz : xs = [] := by
      cases xs with
      | nil => rfl
      | cons y r => obtain ⟨b, o, h⟩ := hs.isSome (i := 0) (by simp); rw [h] at ha; cases ha
    subst hz
    refine wpF_seq ?_
    refine wpF_region rfl ?_   -- R2
    refine wpO_val rfl (x_assignL rfl) ?_
    refine wpO_nil ?_
    refine wpF_ret ?_
    repeat (with_reducible first | refine thenF_r ?_ | refine inBlockF_r ?_)
    refine end_t rfl rfl ?_   -- tmp:2
    exact ⟨Sl.nil, g, rfl, Le.refl g, SlR.zero, H⟩
  ·
    obtain ⟨a, ha⟩ : ∃ a, s.a = some a := by cases h : s.a with | none => rw [h] at hc; cases hc | some a => exact ⟨a, rfl⟩
    refine wpF_skip ?_
    refine wpF_seq ?_
    refine wpF_region rfl ?_   -- R3
    refine wpO_eff rfl (e_buildSlice H Tryz.underlying57 Tryz.sizeOf158 Tryz.zeroValue158 rfl rfl (vs := []) rfl rfl (cs := []) rfl fun b5 w H => ?_)
    have H := H.toRowAt (m := 2) (n := 0) 0 rfl rfl
    refine wpO_val rfl (x_moveL rfl) ?_
    refine wpO_eff rfl (e_append (news := flat Tax.v xs) (a := a) H 0 rfl Tryz.underlying57 isTax rfl (by show Value.slice s.a s.len s.cap = _; rw [ha]) (by rw [hlen]; exact flat_len (fun y _ => elTax.cell y)) (hs.cells elTax.cell H ha) (by unfold flat; rw [List.all_eq_true]; intro v hv; obtain ⟨y, _, hy⟩ := List.mem_flatMap.1 hv; exact List.all_eq_true.1 (elTax.one y) v hy) (by show (0 + s.len) * _ ≤ _; omega) (by show 0 + s.len ≤ _; omega) fun s7 w hs7 hn7 H => ?_)
    refine wpO_val rfl (x_assignL rfl) ?_
    refine wpO_nil ?_
    refine wpF_ret ?_
    repeat (with_reducible first | refine thenF_r ?_ | refine inBlockF_r ?_)
    obtain ⟨g', hle, H, hr⟩ := Holds.sealRow (enc := Tax.v) (xs := xs) H (by simp [flat]) (fun y _ => elTax.cell y) (by decide)
    refine end_t rfl rfl ?_
    exact ⟨s7, g', rfl, hle, hr, H⟩
-- >> cloneTax_c
-- << cloneInt_c
theorem cloneInt_c {c : Cx} {g : Heap} {w : World} {F : List Asn} {s : Sl} {xs : List Int} (hs : SlR g encI 1 s xs) (hl : xs.length ≤ 1000000) (H : Holds c g w F) :
    Calls Tryz.prog 87 #[s.v] w (Ret fun v w' => ∃ s' g', v = s'.v ∧ Le g g' ∧ SlR g' encI 1 s' xs ∧ Holds c g' w' F) := by
  have H : Holds c g w ([] ++ F) := H
  have hlen := hs.len
  -- slices.Clone[[]int64,int64]  (function 143; params ['60']; results tmp:2; ntmps 8)
  refine calls_of_wpF Tryz.func87 rfl Tryz.ntmps87 rfl ?_
  refine wpF_seq ?_
  refine wpF_region rfl ?_   -- R0
  refine wpO_val rfl (x_assignL rfl) ?_
  refine wpO_nil ?_
  refine wpF_seq ?_
  refine wpF_seq ?_
  refine wpF_region rfl ?_   -- R1
  refine wpO_val rfl (x_moveL rfl) ?_
  refine wpO_val rfl (x_eqlSlNil Tryz.underlying60 rfl rfl) ?_
  refine wpO_nil ?_
  refine wpF_cond _ rfl (fun hc => ?_) (fun hc => ?_)
  ·
    have ha : s.a = none := Option.isNone_iff_eq_none.1 hc
    have hz : xs = [] := by
      cases xs with
      | nil => rfl
      | cons y r => obtain ⟨b, o, h⟩ := hs.isSome (i := 0) (by simp); rw [h] at ha; cases ha
    subst hz
    refine wpF_seq ?_
    refine wpF_region rfl ?_   -- R2
    refine wpO_val rfl (x_assignL rfl) ?_
    refine wpO_nil ?_
    refine wpF_ret ?_
    repeat (with_reducible first | refine thenF_r ?_ | refine inBlockF_r ?_)
    refine end_t rfl rfl ?_   -- tmp:2
    exact ⟨Sl.nil, g, rfl, Le.refl g, SlR.zero, H⟩
  ·
    obtain ⟨a, ha⟩ : ∃ a, s.a = some a := by cases h : s.a with | none => rw [h] at hc; cases hc | some a => exact ⟨a, rfl⟩
    refine wpF_skip ?_
    refine wpF_seq ?_
    refine wpF_region rfl ?_   -- R3
    refine wpO_eff rfl (e_buildSlice H Tryz.underlying60 Tryz.sizeOf2 Tryz.zeroValue2 rfl rfl (vs := []) rfl rfl (cs := []) rfl fun b5 w H => ?_)
    have H := H.toRowAt (m := 1) (n := 0) 0 rfl rfl
    refine wpO_val rfl (x_moveL rfl) ?_
    refine wpO_eff rfl (e_append (news := flat encI xs) (a := a) H 0 rfl Tryz.underlying60 isint64 rfl (by show Value.slice s.a s.len s.cap = _; rw [ha]) (by rw [hlen]; exact flat_len (fun y _ => elint64.cell y)) (hs.cells elint64.cell H ha) (by unfold flat; rw [List.all_eq_true]; intro v hv; obtain ⟨y, _, hy⟩ := List.mem_flatMap.1 hv; exact List.all_eq_true.1 (elint64.one y) v hy) (by show (0 + s.len) * _ ≤ _; omega) (by show 0 + s.len ≤ _; omega) fun s7 w hs7 hn7 H => ?_)
    refine wpO_val rfl (x_assignL rfl) ?_
    refine wpO_nil ?_
    refine wpF_ret ?_
    repeat (with_reducible first | refine thenF_r ?_ | refine inBlockF_r ?_)
    obtain ⟨g', hle, H, hr⟩ := Holds.sealRow (enc := encI) (xs := xs) H (by simp [flat]) (fun y _ => elint64.cell y) (by decide)
    refine end_t rfl rfl ?_
    exact ⟨s7, g', rfl, hle, hr, H⟩
-- >> cloneInt_c
end Go.Proofs.YtfoginganpgmcaaGreat
