/- A book's look-ups. -/
import Derived.Test.YtfoginganpgmcaaGreatTypes
set_option linter.unusedSimpArgs false
set_option linter.unusedVariables false
namespace Go.Proofs.YtfoginganpgmcaaGreat
open Go Go.Tw
set_option maxRecDepth 100000

theorem mixed : Tryz.prog.follows .mixedOrders = true := by kernel_rfl

/-- A book's own block. -/
def bkO (self : IK .u8) (n : IK .i64) (md mo mh : Nat) : Obj := .cells #[self.v, n.v, .map (some md), .map (some mo), .map (some mh)] 105

def u8z : IK .u8 := IK.of .u8 0
def Leg.zero : Leg := ⟨IK.of .u8 0, IK.of .u16 0, IK.of .u32 0⟩
def Coupon.zero : Coupon := ⟨Leg.zero, IK.of .i64 0, IK.of .u8 0, IK.of .u32 0⟩
def Held.zero : Held := ⟨Coupon.zero, false, false, false, false⟩
def Own.zero : Own := ⟨Coupon.zero, false, IK.of .u8 0, false, false⟩

theorem helds_c {c : Cx} {g : Heap} {w : World} {L F : List Asn} {b : Nat} {self : IK .u8} {n : IK .i64} {md mo mh : Nat} (H : Holds c g w (L ++ F)) (i : Nat) (hi : L[i]? = some (pt b (bkO self n md mo mh))) :
    Calls Tryz.prog 60 #[.pointer (some ⟨b, 0, none⟩)] w (Ret fun v w' => v = .map (some mh) ∧ Holds c g w' (L ++ F)) := by
  refine calls_of_wpF Tryz.func60 rfl Tryz.ntmps60 rfl ?_
  refine wpF_seq ?_
  refine wpF_region rfl ?_   -- R0
  refine wpO_val rfl x_assign ?_
  refine wpO_nil ?_
  refine wpF_seq ?_
  refine wpF_region rfl ?_   -- R1
  refine wpO_val rfl x_move ?_
  refine wpO_val rfl (x_nilCheck rfl) ?_
  refine wpO_val rfl (x_fieldAddr Tryz.underlying105 rfl Tryz.sizeOf103 rfl) ?_
  refine wpO_val rfl (x_load0b Tryz.isAgg103 rfl (H.getF i hi) rfl) ?_
  refine wpO_val rfl x_assign ?_
  refine wpO_nil ?_
  refine wpF_ret ?_
  repeat (with_reducible first | refine thenF_r ?_ | refine inBlockF_r ?_)
  exact end_t rfl rfl ⟨rfl, H⟩

/-- What a look-up answers. -/
def foundH (o : Option Held) : Value := .tuple #[(o.getD Held.zero).v, .int .i64 (if o.isSome then 0 else 4)]

theorem foundHeld_c {c : Cx} {g : Heap} {w : World} {F : List Asn} {b : Nat} {self : IK .u8} {n : IK .i64} {md mo mh : Nat} {es : Array MapEntry} {clock : Nat} {l : List (Key × Held)} (hrep : MapRep Key.v Held.v es clock l) (k : Key)
    (H : Holds c g w ([pt b (bkO self n md mo mh), pt mh (.map es clock)] ++ F)) :
    Calls Tryz.prog 59 #[.pointer (some ⟨b, 0, none⟩), .func (.func 60) #[] #[], k.v] w
      (Ret fun v w' => v = foundH (kget l k) ∧ Holds c g w' ([pt b (bkO self n md mo mh), pt mh (.map es clock)] ++ F)) := by
  refine calls_of_wpF Tryz.func59 rfl Tryz.ntmps59 rfl ?_
  refine wpF_seq ?_
  refine wpF_region rfl ?_   -- R0
  refine wpO_eff rfl (e_box H rfl fun b5 w H => ?_)
  refine wpO_eff rfl (e_alloc H Tryz.zeroValue64 fun b6 w H => ?_)
  refine wpO_val rfl x_assign ?_
  refine wpO_nil ?_
  refine wpF_seq ?_
  refine wpF_region rfl ?_   -- R1
  refine wpO_eff rfl (e_alloc H Tryz.zeroValue64 fun b8 w H => ?_)
  refine wpO_nil ?_
  refine wpF_seq ?_
  refine wpF_seq ?_
  refine wpF_region rfl ?_   -- R2
  refine wpO_val rfl x_move ?_
  refine wpO_val rfl (x_eqlNil Tryz.underlying37 rfl rfl) ?_
  refine wpO_nil ?_
  refine wpF_false rfl ?_
  refine wpF_skip ?_
  refine wpF_seq ?_
  -- R4 DRAWS; effects [(2, 'call'), (9, 'store')] float 8
  let L1 : List Asn := [pt b (bkO self n md mo mh), pt mh (.map es clock), pt b5 (.cells k.v.cells 27), pt b6 (.cells Held.zero.v.cells 64), pt b8 (.cells Held.zero.v.cells 64)]
  let S1 : Option Value → List Value → World → Prop := fun r vs w => match r, vs with
    | none, [] => Holds c g w (L1 ++ F)
    | some x, [] => ∃ b9, x = .pointer (some ⟨b9, 0, none⟩) ∧ Holds c g w ((L1 ++ [pt b9 (.cells Held.zero.v.cells 64)]) ++ F)
    | none, [v] => v = .map (some mh) ∧ Holds c g w (L1 ++ F)
    | some x, [v] => v = .map (some mh) ∧ ∃ b9, x = .pointer (some ⟨b9, 0, none⟩) ∧ Holds c g w ((L1 ++ [pt b9 (.cells Held.zero.v.cells 64)]) ++ F)
    | some x, [v, _] => v = .map (some mh) ∧ ∃ b9, x = .pointer (some ⟨b9, 0, none⟩) ∧ Holds c g w ((L1 ++ [pt b9 (.cells ((kget l k).getD Held.zero).v.cells 64)]) ++ F)
    | _, _ => False
  refine wpF_draw [0, 1, 3, 2, 4, 5, 6, 7, 8, 9, 10] 8 (fun i => Nat.beq i 2 || Nat.beq i 9) (fun w => Has c w L1) S1 mixed (by kernel_rfl) rfl ?hR (H.drew _) ?_
  case hR =>
    intro r vs w h
    match r, vs, h with
    | none, [], h => exact Holds.has h
    | some _, [], ⟨_, _, h⟩ => exact ⟨g, _, by rw [← List.append_assoc]; exact h⟩
    | none, [_], ⟨_, h⟩ => exact Holds.has h
    | some _, [_], ⟨_, _, _, h⟩ => exact ⟨g, _, by rw [← List.append_assoc]; exact h⟩
    | some _, [_, _], ⟨_, _, _, h⟩ => exact ⟨g, _, by rw [← List.append_assoc]; exact h⟩
    | none, _ :: _ :: _, h => exact h.elim
    | some _, _ :: _ :: _ :: _, h => exact h.elim
  refine wpDF_quiet rfl rfl rfl rfl (fun w HR => x_move) ?_
  refine wpDF_quiet rfl rfl rfl rfl (fun w HR => x_move) ?_
  refine wpDF_quiet rfl rfl rfl rfl (fun w HR => (x_load1 Tryz.isAgg27 Tryz.sizeOf27 rfl (HR.get 2 rfl) rfl)) ?_
  refine wpDF_eff rfl rfl rfl rfl (fun r w hr H => ?_) (fun v hv => ?_)   -- 2: call
  · cases r with
    | none => exact e_call (fi := #[]) (ca := #[]) rfl Tryz.call60 rfl ((helds_c H 0 rfl).mono (Ret.mono fun v w h => h))
    | some x =>
      obtain ⟨b9, hx, H⟩ := H
      exact e_call (fi := #[]) (ca := #[]) rfl Tryz.call60 rfl ((helds_c H 0 rfl).mono (Ret.mono fun v w ⟨h1, h2⟩ => ⟨h1, b9, hx, h2⟩))
  have hv : v = .map (some mh) := by
    obtain ⟨r, w, h⟩ := hv
    cases r with
    | none => exact h.1
    | some x => exact h.1
  subst hv
  refine wpDF_quiet rfl rfl rfl rfl (fun w HR => (x_lookupOk (enc := Key.v) (encV := Held.v) (z := Held.zero) keyKey Tryz.underlying103 Tryz.zeroValue64 hrep rfl (HR.get 1 rfl) rfl)) ?_
  refine wpDF_quiet rfl rfl rfl rfl (fun w HR => x_move) ?_
  refine wpDF_quiet rfl rfl rfl rfl (fun w HR => (x_extract rfl rfl)) ?_
  refine wpDF_quiet rfl rfl rfl rfl (fun w HR => (x_extract rfl rfl)) ?_
  refine wpDF_float rfl rfl (fun vs w H => ?_) (fun x hv => ?_)   -- 8: alloc
  · match vs, H with
    | [], H => exact e_alloc H Tryz.zeroValue64 fun b w H => ⟨b, rfl, H⟩
    | [v], ⟨hv, H⟩ => exact e_alloc H Tryz.zeroValue64 fun b w H => ⟨hv, b, rfl, H⟩
    | _ :: _ :: _, H => exact H.elim
  have hv : ∃ b9, x = .pointer (some ⟨b9, 0, none⟩) := by
    obtain ⟨vs, w, h⟩ := hv
    match vs, h with
    | [], ⟨b9, h, _⟩ => exact ⟨b9, h⟩
    | [_], ⟨_, b9, h, _⟩ => exact ⟨b9, h⟩
    | [_, _], ⟨_, b9, h, _⟩ => exact ⟨b9, h⟩
    | _ :: _ :: _ :: _, h => exact h.elim
  obtain ⟨b9, rfl⟩ := hv
  refine wpDF_eff rfl rfl rfl rfl (fun r w hr H => ?_) (fun v hv => ?_)   -- 9: store
  · obtain rfl := hr rfl
    obtain ⟨h1, b9', h2, H⟩ := H
    cases h2
    exact e_storeAll H 5 rfl Tryz.sizeOf64 rfl rfl rfl rfl rfl fun w H => ⟨h1, b9, rfl, H⟩
  refine wpDF_quiet rfl rfl rfl rfl (fun w HR => x_assign) ?_
  refine wpDF_nil fun w H => ?_
  obtain ⟨_, b9', h2, H⟩ := H
  cases h2
  refine wpF_seq ?_
  refine wpF_seq ?_
  refine wpF_region rfl ?_   -- R5
  refine wpO_val rfl x_move ?_
  refine wpO_val rfl (x_not rfl) ?_
  refine wpO_nil ?_
  refine wpF_cond _ rfl (fun hc => ?_) (fun hc => ?_)   -- t23
  ·
    refine wpF_seq ?_
    refine wpF_region rfl ?_   -- R6
    refine wpO_val rfl (x_load1 Tryz.isAgg64 Tryz.sizeOf64 rfl (H.getF 4 rfl) rfl) ?_
    refine wpO_eff0 rfl (e_storeAll H 3 rfl Tryz.sizeOf64 rfl rfl rfl rfl rfl fun w H => ?_)
    refine wpO_val rfl x_assign ?_
    refine wpO_nil ?_
    refine wpF_ret ?_
    repeat (with_reducible first | refine thenF_r ?_ | refine inBlockF_r ?_)
    have hk : kget l k = none := by simpa using hc
    refine end_ct rfl rfl rfl Tryz.isAgg64 Tryz.sizeOf64 (H.getF 3 rfl) rfl ?_
    exact ⟨by rw [hk]; rfl, H.sel [0, 1] 6 rfl rfl⟩
  ·
    refine wpF_skip ?_
    refine wpF_seq ?_
    refine wpF_region rfl ?_   -- R7
    refine wpO_val rfl (x_load1 Tryz.isAgg64 Tryz.sizeOf64 rfl (H.getF 5 rfl) rfl) ?_
    refine wpO_eff0 rfl (e_storeAll H 3 rfl Tryz.sizeOf64 rfl rfl rfl rfl rfl fun w H => ?_)
    refine wpO_val rfl x_assign ?_
    refine wpO_nil ?_
    refine wpF_ret ?_
    repeat (with_reducible first | refine thenF_r ?_ | refine inBlockF_r ?_)
    have hk : (kget l k).isSome = true := by simpa using hc
    refine end_ct rfl rfl rfl Tryz.isAgg64 Tryz.sizeOf64 (H.getF 3 rfl) rfl ?_
    exact ⟨by unfold foundH; rw [hk]; rfl, H.sel [0, 1] 6 rfl rfl⟩
end Go.Proofs.YtfoginganpgmcaaGreat
