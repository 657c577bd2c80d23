/- Look-ups of a book's own coupons. -/
import Derived.Test.YtfoginganpgmcaaGreatBook1
set_option linter.unusedSimpArgs false
set_option linter.unusedVariables false
namespace Go.Proofs.YtfoginganpgmcaaGreat
open Go Go.Tw
set_option maxRecDepth 100000

theorem owns_c {c : Cx} {g : Heap} {w : World} {L F : List Asn} {b : Nat} {self : IK .u8} {n : IK .i64} {md mo mh : Nat} (H : Holds c g w (L ++ F)) (i : Nat) (hi : L[i]? = some (pt b (bkO self n md mo mh))) :
    Calls Tryz.prog 39 #[.pointer (some ⟨b, 0, none⟩)] w (Ret fun v w' => v = .map (some mo) ∧ Holds c g w' (L ++ F)) := by
  refine calls_of_wpF Tryz.func39 rfl Tryz.ntmps39 rfl ?_
  refine wpF_seq ?_
  refine wpF_region rfl ?_   -- R0
  refine wpO_val rfl x_assign ?_
  refine wpO_nil ?_
  refine wpF_seq ?_
  refine wpF_region rfl ?_   -- R1
  refine wpO_val rfl x_move ?_
  refine wpO_val rfl (x_nilCheck rfl) ?_
  refine wpO_val rfl (x_fieldAddr Tryz.underlying105 rfl Tryz.sizeOf102 rfl) ?_
  refine wpO_val rfl (x_load0b Tryz.isAgg102 rfl (H.getF i hi) rfl) ?_
  refine wpO_val rfl x_assign ?_
  refine wpO_nil ?_
  refine wpF_ret ?_
  repeat (with_reducible first | refine thenF_r ?_ | refine inBlockF_r ?_)
  exact end_t rfl rfl ⟨rfl, H⟩

/-- What a look-up answers. -/
def foundO (o : Option Own) : Value := .tuple #[(o.getD Own.zero).v, .int .i64 (if o.isSome then 0 else 4)]

theorem foundOwn_c {c : Cx} {g : Heap} {w : World} {F : List Asn} {b : Nat} {self : IK .u8} {n : IK .i64} {md mo mh : Nat} {es : Array MapEntry} {clock : Nat} {l : List (Key × Own)} (hrep : MapRep Key.v Own.v es clock l) (k : Key)
    (H : Holds c g w ([pt b (bkO self n md mo mh), pt mo (.map es clock)] ++ F)) :
    Calls Tryz.prog 38 #[.pointer (some ⟨b, 0, none⟩), .func (.func 39) #[] #[], k.v] w
      (Ret fun v w' => v = foundO (kget l k) ∧ Holds c g w' ([pt b (bkO self n md mo mh), pt mo (.map es clock)] ++ F)) := by
  refine calls_of_wpF Tryz.func38 rfl Tryz.ntmps38 rfl ?_
  refine wpF_seq ?_
  refine wpF_region rfl ?_   -- R0
  refine wpO_eff rfl (e_box H rfl fun b5 w H => ?_)
  refine wpO_eff rfl (e_alloc H Tryz.zeroValue43 fun b6 w H => ?_)
  refine wpO_val rfl x_assign ?_
  refine wpO_nil ?_
  refine wpF_seq ?_
  refine wpF_region rfl ?_   -- R1
  refine wpO_eff rfl (e_alloc H Tryz.zeroValue43 fun b8 w H => ?_)
  refine wpO_nil ?_
  refine wpF_seq ?_
  refine wpF_seq ?_
  refine wpF_region rfl ?_   -- R2
  refine wpO_val rfl x_move ?_
  refine wpO_val rfl (x_eqlNil Tryz.underlying37 rfl rfl) ?_
  refine wpO_nil ?_
  refine wpF_false rfl ?_
  refine wpF_skip ?_
  refine wpF_seq ?_
  -- R4 DRAWS; effects [(2, 'call'), (9, 'store')] float 8
  let L1 : List Asn := [pt b (bkO self n md mo mh), pt mo (.map es clock), pt b5 (.cells k.v.cells 27), pt b6 (.cells Own.zero.v.cells 43), pt b8 (.cells Own.zero.v.cells 43)]
  let S1 : Option Value → List Value → World → Prop := fun r vs w => match r, vs with
    | none, [] => Holds c g w (L1 ++ F)
    | some x, [] => ∃ b9, x = .pointer (some ⟨b9, 0, none⟩) ∧ Holds c g w ((L1 ++ [pt b9 (.cells Own.zero.v.cells 43)]) ++ F)
    | none, [v] => v = .map (some mo) ∧ Holds c g w (L1 ++ F)
    | some x, [v] => v = .map (some mo) ∧ ∃ b9, x = .pointer (some ⟨b9, 0, none⟩) ∧ Holds c g w ((L1 ++ [pt b9 (.cells Own.zero.v.cells 43)]) ++ F)
    | some x, [v, _] => v = .map (some mo) ∧ ∃ b9, x = .pointer (some ⟨b9, 0, none⟩) ∧ Holds c g w ((L1 ++ [pt b9 (.cells ((kget l k).getD Own.zero).v.cells 43)]) ++ F)
    | _, _ => False
  refine wpF_draw [0, 1, 3, 2, 4, 5, 6, 7, 8, 9, 10] 8 (fun i => Nat.beq i 2 || Nat.beq i 9) (fun w => Has c w L1) S1 mixed (by kernel_rfl) rfl ?hR (H.drew _) ?_
  case hR =>
    intro r vs w h
    match r, vs, h with
    | none, [], h => exact Holds.has h
    | some _, [], ⟨_, _, h⟩ => exact ⟨g, _, by rw [← List.append_assoc]; exact h⟩
    | none, [_], ⟨_, h⟩ => exact Holds.has h
    | some _, [_], ⟨_, _, _, h⟩ => exact ⟨g, _, by rw [← List.append_assoc]; exact h⟩
    | some _, [_, _], ⟨_, _, _, h⟩ => exact ⟨g, _, by rw [← List.append_assoc]; exact h⟩
    | none, _ :: _ :: _, h => exact h.elim
    | some _, _ :: _ :: _ :: _, h => exact h.elim
  refine wpDF_quiet rfl rfl rfl rfl (fun w HR => x_move) ?_
  refine wpDF_quiet rfl rfl rfl rfl (fun w HR => x_move) ?_
  refine wpDF_quiet rfl rfl rfl rfl (fun w HR => (x_load1 Tryz.isAgg27 Tryz.sizeOf27 rfl (HR.get 2 rfl) rfl)) ?_
  refine wpDF_eff rfl rfl rfl rfl (fun r w hr H => ?_) (fun v hv => ?_)   -- 2: call
  · cases r with
    | none => exact e_call (fi := #[]) (ca := #[]) rfl Tryz.call39 rfl ((owns_c H 0 rfl).mono (Ret.mono fun v w h => h))
    | some x =>
      obtain ⟨b9, hx, H⟩ := H
      exact e_call (fi := #[]) (ca := #[]) rfl Tryz.call39 rfl ((owns_c H 0 rfl).mono (Ret.mono fun v w ⟨h1, h2⟩ => ⟨h1, b9, hx, h2⟩))
  have hv : v = .map (some mo) := by
    obtain ⟨r, w, h⟩ := hv
    cases r with
    | none => exact h.1
    | some x => exact h.1
  subst hv
  refine wpDF_quiet rfl rfl rfl rfl (fun w HR => (x_lookupOk (enc := Key.v) (encV := Own.v) (z := Own.zero) keyKey Tryz.underlying102 Tryz.zeroValue43 hrep rfl (HR.get 1 rfl) rfl)) ?_
  refine wpDF_quiet rfl rfl rfl rfl (fun w HR => x_move) ?_
  refine wpDF_quiet rfl rfl rfl rfl (fun w HR => (x_extract rfl rfl)) ?_
  refine wpDF_quiet rfl rfl rfl rfl (fun w HR => (x_extract rfl rfl)) ?_
  refine wpDF_float rfl rfl (fun vs w H => ?_) (fun x hv => ?_)   -- 8: alloc
  · match vs, H with
    | [], H => exact e_alloc H Tryz.zeroValue43 fun b w H => ⟨b, rfl, H⟩
    | [v], ⟨hv, H⟩ => exact e_alloc H Tryz.zeroValue43 fun b w H => ⟨hv, b, rfl, H⟩
    | _ :: _ :: _, H => exact H.elim
  have hv : ∃ b9, x = .pointer (some ⟨b9, 0, none⟩) := by
    obtain ⟨vs, w, h⟩ := hv
    match vs, h with
    | [], ⟨b9, h, _⟩ => exact ⟨b9, h⟩
    | [_], ⟨_, b9, h, _⟩ => exact ⟨b9, h⟩
    | [_, _], ⟨_, b9, h, _⟩ => exact ⟨b9, h⟩
    | _ :: _ :: _ :: _, h => exact h.elim
  obtain ⟨b9, rfl⟩ := hv
  refine wpDF_eff rfl rfl rfl rfl (fun r w hr H => ?_) (fun v hv => ?_)   -- 9: store
  · obtain rfl := hr rfl
    obtain ⟨h1, b9', h2, H⟩ := H
    cases h2
    exact e_storeAll H 5 rfl Tryz.sizeOf43 rfl rfl rfl rfl rfl fun w H => ⟨h1, b9, rfl, H⟩
  refine wpDF_quiet rfl rfl rfl rfl (fun w HR => x_assign) ?_
  refine wpDF_nil fun w H => ?_
  obtain ⟨_, b9', h2, H⟩ := H
  cases h2
  refine wpF_seq ?_
  refine wpF_seq ?_
  refine wpF_region rfl ?_   -- R5
  refine wpO_val rfl x_move ?_
  refine wpO_val rfl (x_not rfl) ?_
  refine wpO_nil ?_
  refine wpF_cond _ rfl (fun hc => ?_) (fun hc => ?_)   -- t23
  ·
    refine wpF_seq ?_
    refine wpF_region rfl ?_   -- R6
    refine wpO_val rfl (x_load1 Tryz.isAgg43 Tryz.sizeOf43 rfl (H.getF 4 rfl) rfl) ?_
    refine wpO_eff0 rfl (e_storeAll H 3 rfl Tryz.sizeOf43 rfl rfl rfl rfl rfl fun w H => ?_)
    refine wpO_val rfl x_assign ?_
    refine wpO_nil ?_
    refine wpF_ret ?_
    repeat (with_reducible first | refine thenF_r ?_ | refine inBlockF_r ?_)
    have hk : kget l k = none := by simpa using hc
    refine end_ct rfl rfl rfl Tryz.isAgg43 Tryz.sizeOf43 (H.getF 3 rfl) rfl ?_
    exact ⟨by rw [hk]; rfl, H.sel [0, 1] 6 rfl rfl⟩
  ·
    refine wpF_skip ?_
    refine wpF_seq ?_
    refine wpF_region rfl ?_   -- R7
    refine wpO_val rfl (x_load1 Tryz.isAgg43 Tryz.sizeOf43 rfl (H.getF 5 rfl) rfl) ?_
    refine wpO_eff0 rfl (e_storeAll H 3 rfl Tryz.sizeOf43 rfl rfl rfl rfl rfl fun w H => ?_)
    refine wpO_val rfl x_assign ?_
    refine wpO_nil ?_
    refine wpF_ret ?_
    repeat (with_reducible first | refine thenF_r ?_ | refine inBlockF_r ?_)
    have hk : (kget l k).isSome = true := by simpa using hc
    refine end_ct rfl rfl rfl Tryz.isAgg43 Tryz.sizeOf43 (H.getF 3 rfl) rfl ?_
    exact ⟨by unfold foundO; rw [hk]; rfl, H.sel [0, 1] 6 rfl rfl⟩
end Go.Proofs.YtfoginganpgmcaaGreat
