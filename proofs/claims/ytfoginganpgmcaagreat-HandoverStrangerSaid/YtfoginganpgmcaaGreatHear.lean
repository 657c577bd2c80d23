/- handover.Hear, Want, Mine. -/
import Derived.Test.YtfoginganpgmcaaGreatHand
set_option linter.unusedSimpArgs false
set_option linter.unusedVariables false
namespace Go.Proofs.YtfoginganpgmcaaGreat
open Go Go.Tw
set_option maxRecDepth 100000

theorem keyU8 : KeyLaw Tryz.prog 5 (IK.v (k := .u8)) where
  chk e a w := chk_int e 9999 Tryz.underlying5 a w
  und := ⟨_, Tryz.underlying5, .inr fun a b => by
    have : (a.n == b.n) = decide (a = b) := by rw [Bool.eq_iff_iff]; simp [IK.n_inj]
    simp [Instr.sameNow, IK.v, this]⟩
  eq := fun a b w => equalIn_int 9999 Tryz.underlying5 a b w
  same a := by
    unfold IK.v Instr.sameBits
    simp

theorem stHear : StLaw Tryz.prog 112 [(0, 1), (1, 1), (2, 12)] (#[.pointer none, .int .u8 0] ++ mzero.cells) := fun parts => by kernel_rfl

/-- What hearing comes to: the book, what is told, the answer. -/
structure HR where
  B : Bk
  outs : List Out
  e : Int
def Bk.hearK (B : Bk) (fr : IK .u8) (m : Msg) : Nat → HR
  | 1 => ⟨(B.hWant fr m).1, (B.hWant fr m).2, 0⟩
  | 2 => ⟨(B.hGrant fr m).1, [], (B.hGrant fr m).2⟩
  | 3 => ⟨B.hRefuse fr m, [], 0⟩
  | 4 => ⟨(B.hRecall fr m).1, (B.hRecall fr m).2, 0⟩
  | _ => ⟨B.hReturn fr m, [], 0⟩
def Bk.hearBad (B : Bk) (fr : IK .u8) (m : Msg) : Bool := !(decide (1 ≤ m.kind.n) && decide (m.kind.n ≤ 5)) || (fr.n == B.self.n) || decide (fr.n ≥ B.n.n)
def Bk.hear (B : Bk) (fr : IK .u8) (m : Msg) : HR := if B.hearBad fr m = true then ⟨B, [], 1⟩ else B.hearK fr m m.kind.n.toNat

def clF : Nat → FuncId
  | 1 => 40
  | 2 => 42
  | 3 => 44
  | 4 => 46
  | _ => 48
def cl (bx i : Nat) : Value := .func (.func (clF i)) #[] #[.pointer (some ⟨bx, 0, none⟩)]
def hearMap (bx : Nat) : List (IK .u8 × Value) :=
  kput (kput (kput (kput (kput [] (IK.lit .u8 1) (cl bx 1)) (IK.lit .u8 2) (cl bx 2)) (IK.lit .u8 3) (cl bx 3)) (IK.lit .u8 4) (cl bx 4)) (IK.lit .u8 5) (cl bx 5)
theorem hearMap_get (bx : Nat) (k : IK .u8) : kget (hearMap bx) k = if 1 ≤ k.n ∧ k.n ≤ 5 then some (cl bx k.n.toNat) else none := by
  have e : ∀ (i : IK .u8), (i = k) ↔ i.n = k.n := fun i => IK.n_inj.symm
  simp only [hearMap, kget_kput, e]
  by_cases h1 : k.n = 1
  · simp [h1]
  by_cases h2 : k.n = 2
  · simp [h2]
  by_cases h3 : k.n = 3
  · simp [h3]
  by_cases h4 : k.n = 4
  · simp [h4]
  by_cases h5 : k.n = 5
  · simp [h5]
  rw [if_neg (by omega), if_neg (by omega), if_neg (by omega), if_neg (by omega), if_neg (by omega), if_neg (by omega)]
  rfl

def HearRet (c : Cx) (g : Heap) (F : List Asn) (b : Nat) (r : HR) (v : Value) (w : World) : Prop := ∃ so, v = .tuple #[so.v, .int .i64 r.e] ∧ OutsOk so r.outs ∧ Holds c g w ([outsA so r.outs] ++ (r.B.L b ++ F))

-- << hear1_c
theorem hear1_c {c : Cx} {g : Heap} {w : World} {F : List Asn} {b bx : Nat} (B : Bk) (fr : IK .u8) (m : Msg) (H : Holds c g w ((B.L b ++ [pt bx (.cells (hearV b fr m).cells 112)]) ++ F)) :
    Calls Tryz.prog 40 #[.pointer (some ⟨bx, 0, none⟩)] w (Ret (HearRet c g F b (B.hearK fr m 1))) := by
  -- tarmac/handover.Hear$1  (function 40; params []; results tmp:1 tmp:2; ntmps 5)
  refine calls_of_wpF Tryz.func40 rfl Tryz.ntmps40 rfl ?_
  refine wpF_seq ?_
  refine wpF_region rfl ?_   -- R0
  refine wpO_val rfl (x_assignL rfl) ?_
  refine wpO_val rfl (x_assignI rfl) ?_
  refine wpO_nil ?_
  refine wpF_seq ?_
  refine wpF_region rfl ?_   -- R1
  refine wpO_val rfl (x_load1V (hearV b fr m) Tryz.isAgg112 Tryz.sizeOf112 rfl (H.getF 4 rfl) (by kernel_rfl) (by kernel_rfl)) ?_
  refine wpO_eff rfl (e_callF (vs := [hearV b fr m]) Tryz.call41 rfl ((hWant_c B fr m (F := F) (Holds.sel H [0, 1, 2, 3] 5 rfl rfl)).mono (Ret.mono ?_)))
  rintro v4 w ⟨s4, rfl, ho4, H⟩
  refine wpO_val rfl (x_assignL rfl) ?_
  refine wpO_val rfl (x_assignI rfl) ?_
  refine wpO_nil ?_
  refine wpF_ret ?_
  repeat (with_reducible first | refine thenF_r ?_ | refine inBlockF_r ?_)
  refine end_tt rfl rfl rfl ?_   -- tmp:1 tmp:2
  exact ⟨s4, rfl, ho4, H⟩
-- >> hear1_c
-- << hear2_c
theorem hear2_c {c : Cx} {g : Heap} {w : World} {F : List Asn} {b bx : Nat} (B : Bk) (fr : IK .u8) (m : Msg) (H : Holds c g w ((B.L b ++ [pt bx (.cells (hearV b fr m).cells 112)]) ++ F)) :
    Calls Tryz.prog 42 #[.pointer (some ⟨bx, 0, none⟩)] w (Ret (HearRet c g F b (B.hearK fr m 2))) := by
  -- tarmac/handover.Hear$2  (function 42; params []; results tmp:1 tmp:2; ntmps 5)
  refine calls_of_wpF Tryz.func42 rfl Tryz.ntmps42 rfl ?_
  refine wpF_seq ?_
  refine wpF_region rfl ?_   -- R0
  refine wpO_val rfl (x_assignL rfl) ?_
  refine wpO_val rfl (x_assignI rfl) ?_
  refine wpO_nil ?_
  refine wpF_seq ?_
  refine wpF_region rfl ?_   -- R1
  refine wpO_val rfl (x_load1V (hearV b fr m) Tryz.isAgg112 Tryz.sizeOf112 rfl (H.getF 4 rfl) (by kernel_rfl) (by kernel_rfl)) ?_
  refine wpO_eff rfl (e_callF (vs := [hearV b fr m]) Tryz.call43 rfl ((hGrant_c B fr m (F := [_] ++ F) H).mono (Ret.mono ?_)))
  rintro v4 w ⟨rfl, H'⟩
  replace H : Holds c g w (((B.hGrant fr m).1.L b ++ [_]) ++ F) := H'
  refine wpO_val rfl (x_assignL rfl) ?_
  refine wpO_val rfl (x_assignI rfl) ?_
  refine wpO_nil ?_
  refine wpF_ret ?_
  repeat (with_reducible first | refine thenF_r ?_ | refine inBlockF_r ?_)
  refine end_tt rfl rfl rfl ?_   -- tmp:1 tmp:2
  exact ⟨Sl.nil, rfl, OutsOk.nil, Holds.noOuts (H.sel [0, 1, 2, 3] 5 rfl rfl)⟩
-- >> hear2_c
-- << hear3_c
theorem hear3_c {c : Cx} {g : Heap} {w : World} {F : List Asn} {b bx : Nat} (B : Bk) (fr : IK .u8) (m : Msg) (H : Holds c g w ((B.L b ++ [pt bx (.cells (hearV b fr m).cells 112)]) ++ F)) :
    Calls Tryz.prog 44 #[.pointer (some ⟨bx, 0, none⟩)] w (Ret (HearRet c g F b (B.hearK fr m 3))) := by
  -- tarmac/handover.Hear$3  (function 44; params []; results tmp:1 tmp:2; ntmps 5)
  refine calls_of_wpF Tryz.func44 rfl Tryz.ntmps44 rfl ?_
  refine wpF_seq ?_
  refine wpF_region rfl ?_   -- R0
  refine wpO_val rfl (x_assignL rfl) ?_
  refine wpO_val rfl (x_assignI rfl) ?_
  refine wpO_nil ?_
  refine wpF_seq ?_
  refine wpF_region rfl ?_   -- R1
  refine wpO_val rfl (x_load1V (hearV b fr m) Tryz.isAgg112 Tryz.sizeOf112 rfl (H.getF 4 rfl) (by kernel_rfl) (by kernel_rfl)) ?_
  refine wpO_eff rfl (e_callF (vs := [hearV b fr m]) Tryz.call45 rfl ((hRefuse_c B fr m (F := [_] ++ F) H).mono (Ret.mono ?_)))
  rintro v4 w ⟨rfl, H'⟩
  replace H : Holds c g w (((B.hRefuse fr m).L b ++ [_]) ++ F) := H'
  refine wpO_nil ?_
  refine wpF_seq ?_
  refine wpF_region rfl ?_   -- R2
  refine wpO_val rfl (x_assignL rfl) ?_
  refine wpO_val rfl (x_assignI rfl) ?_
  refine wpO_nil ?_
  refine wpF_ret ?_
  repeat (with_reducible first | refine thenF_r ?_ | refine inBlockF_r ?_)
  refine end_tt rfl rfl rfl ?_   -- tmp:1 tmp:2
  exact ⟨Sl.nil, rfl, OutsOk.nil, Holds.noOuts (H.sel [0, 1, 2, 3] 5 rfl rfl)⟩
-- >> hear3_c
-- << hear4_c
theorem hear4_c {c : Cx} {g : Heap} {w : World} {F : List Asn} {b bx : Nat} (B : Bk) (fr : IK .u8) (m : Msg) (H : Holds c g w ((B.L b ++ [pt bx (.cells (hearV b fr m).cells 112)]) ++ F)) :
    Calls Tryz.prog 46 #[.pointer (some ⟨bx, 0, none⟩)] w (Ret (HearRet c g F b (B.hearK fr m 4))) := by
  -- tarmac/handover.Hear$4  (function 46; params []; results tmp:1 tmp:2; ntmps 5)
  refine calls_of_wpF Tryz.func46 rfl Tryz.ntmps46 rfl ?_
  refine wpF_seq ?_
  refine wpF_region rfl ?_   -- R0
  refine wpO_val rfl (x_assignL rfl) ?_
  refine wpO_val rfl (x_assignI rfl) ?_
  refine wpO_nil ?_
  refine wpF_seq ?_
  refine wpF_region rfl ?_   -- R1
  refine wpO_val rfl (x_load1V (hearV b fr m) Tryz.isAgg112 Tryz.sizeOf112 rfl (H.getF 4 rfl) (by kernel_rfl) (by kernel_rfl)) ?_
  refine wpO_eff rfl (e_callF (vs := [hearV b fr m]) Tryz.call47 rfl ((hRecall_c B fr m (F := F) (Holds.sel H [0, 1, 2, 3] 5 rfl rfl)).mono (Ret.mono ?_)))
  rintro v4 w ⟨s4, rfl, ho4, H⟩
  refine wpO_val rfl (x_assignL rfl) ?_
  refine wpO_val rfl (x_assignI rfl) ?_
  refine wpO_nil ?_
  refine wpF_ret ?_
  repeat (with_reducible first | refine thenF_r ?_ | refine inBlockF_r ?_)
  refine end_tt rfl rfl rfl ?_   -- tmp:1 tmp:2
  exact ⟨s4, rfl, ho4, H⟩
-- >> hear4_c
-- << hear5_c
theorem hear5_c {c : Cx} {g : Heap} {w : World} {F : List Asn} {b bx : Nat} (B : Bk) (fr : IK .u8) (m : Msg) (H : Holds c g w ((B.L b ++ [pt bx (.cells (hearV b fr m).cells 112)]) ++ F)) :
    Calls Tryz.prog 48 #[.pointer (some ⟨bx, 0, none⟩)] w (Ret (HearRet c g F b (B.hearK fr m 5))) := by
  -- tarmac/handover.Hear$5  (function 48; params []; results tmp:1 tmp:2; ntmps 5)
  refine calls_of_wpF Tryz.func48 rfl Tryz.ntmps48 rfl ?_
  refine wpF_seq ?_
  refine wpF_region rfl ?_   -- R0
  refine wpO_val rfl (x_assignL rfl) ?_
  refine wpO_val rfl (x_assignI rfl) ?_
  refine wpO_nil ?_
  refine wpF_seq ?_
  refine wpF_region rfl ?_   -- R1
  refine wpO_val rfl (x_load1V (hearV b fr m) Tryz.isAgg112 Tryz.sizeOf112 rfl (H.getF 4 rfl) (by kernel_rfl) (by kernel_rfl)) ?_
  refine wpO_eff rfl (e_callF (vs := [hearV b fr m]) Tryz.call49 rfl ((hReturn_c B fr m (F := [_] ++ F) H).mono (Ret.mono ?_)))
  rintro v4 w ⟨rfl, H'⟩
  replace H : Holds c g w (((B.hReturn fr m).L b ++ [_]) ++ F) := H'
  refine wpO_nil ?_
  refine wpF_seq ?_
  refine wpF_region rfl ?_   -- R2
  refine wpO_val rfl (x_assignL rfl) ?_
  refine wpO_val rfl (x_assignI rfl) ?_
  refine wpO_nil ?_
  refine wpF_ret ?_
  repeat (with_reducible first | refine thenF_r ?_ | refine inBlockF_r ?_)
  refine end_tt rfl rfl rfl ?_   -- tmp:1 tmp:2
  exact ⟨Sl.nil, rfl, OutsOk.nil, Holds.noOuts (H.sel [0, 1, 2, 3] 5 rfl rfl)⟩
-- >> hear5_c
theorem hearAny_c {c : Cx} {g : Heap} {w : World} {F : List Asn} {b bx : Nat} (B : Bk) (fr : IK .u8) (m : Msg) (i : Nat) (h1 : 1 ≤ i) (h5 : i ≤ 5) (H : Holds c g w ((B.L b ++ [pt bx (.cells (hearV b fr m).cells 112)]) ++ F)) :
    Calls Tryz.prog (clF i) #[.pointer (some ⟨bx, 0, none⟩)] w (Ret (HearRet c g F b (B.hearK fr m i))) := by
  have : i = 1 ∨ i = 2 ∨ i = 3 ∨ i = 4 ∨ i = 5 := by omega
  rcases this with rfl | rfl | rfl | rfl | rfl
  · exact hear1_c B fr m H
  · exact hear2_c B fr m H
  · exact hear3_c B fr m H
  · exact hear4_c B fr m H
  · exact hear5_c B fr m H
theorem clF_call (i : Nat) (args : Array Value) (w : World) : (callFunc (clF i) args).run Tryz.prog w = .ok (.enter (clF i) args) w := by
  unfold clF
  split
  · exact Tryz.call40 args w
  · exact Tryz.call42 args w
  · exact Tryz.call44 args w
  · exact Tryz.call46 args w
  · exact Tryz.call48 args w
-- << hear_c
theorem hear_c {c : Cx} {g : Heap} {w : World} {F : List Asn} {b : Nat} (B : Bk) (fr : IK .u8) (m : Msg) (H : Holds c g w (B.L b ++ F)) :
    Calls Tryz.prog 11 #[.pointer (some ⟨b, 0, none⟩), fr.v, m.v] w (Ret (HearRet c g F b (B.hear fr m))) := by
  have hw8 : IntKind.i64.wrap fr.n = fr.n := w64 (by have := fr.u8; omega) (by have := fr.u8; omega)
  -- tarmac/handover.Hear  (function 11; params ['37', '5', '51']; results tmp:6 tmp:7; ntmps 51)
  refine calls_of_wpF Tryz.func11 rfl Tryz.ntmps11 rfl ?_
  refine wpF_seq ?_
  refine wpF_region rfl ?_   -- R0
  refine wpO_eff rfl (e_boxA H rfl fun b5 w H => ?_)
  refine wpO_val rfl (x_assignL rfl) ?_
  refine wpO_val rfl (x_assignI rfl) ?_
  refine wpO_nil ?_
  refine wpF_seq ?_
  refine wpF_seq ?_
  refine wpF_region rfl ?_   -- R1
  refine wpO_val rfl (x_moveP rfl) ?_
  refine wpO_val rfl (x_eqlNil Tryz.underlying37 rfl rfl) ?_
  refine wpO_nil ?_
  refine wpF_false rfl ?_
  refine wpF_skip ?_
  refine wpF_seq ?_
  refine wpF_region rfl ?_   -- R3
  refine wpO_val rfl (x_moveP rfl) ?_
  refine wpO_val rfl (x_moveI rfl) ?_
  refine wpO_val rfl (x_load1V m.v Tryz.isAgg51 Tryz.sizeOf51 rfl (H.getF 4 rfl) (by kernel_rfl) (by kernel_rfl)) ?_
  refine wpO_val rfl (x_buildSt stHear [.pointer (some ⟨b, 0, none⟩), fr.v, m.v] rfl (cs := (hearV b fr m).cells) (by kernel_rfl)) ?_
  refine wpO_eff rfl (e_alloc H Tryz.zeroValue112 fun b8 w H => ?_)
  refine wpO_eff0 rfl (e_storeAll (v := hearV b fr m) H 5 rfl Tryz.sizeOf112 rfl rfl rfl rfl (by kernel_rfl) fun w H => ?_)
  refine wpO_nil ?_
  refine wpF_seq ?_
  refine wpF_region rfl ?_   -- R4
  refine wpO_eff rfl (e_makeMap H fun b18 w H => ?_)
  have H := H.emptyAt (enc := IK.v (k := .u8)) (encV := fun v : Value => v) 6 rfl
  refine wpO_val rfl (x_makeFunc (vx := []) (vy := [.pointer (some ⟨b8, 0, none⟩)]) rfl rfl) ?_
  refine wpO_eff0 rfl (e_insert (a := IK.lit .u8 1) (u := cl b8 1) H 6 rfl keyU8 Tryz.underlying116 rfl rfl rfl fun w H => ?_)
  refine wpO_val rfl (x_makeFunc (vx := []) (vy := [.pointer (some ⟨b8, 0, none⟩)]) rfl rfl) ?_
  refine wpO_eff0 rfl (e_insert (a := IK.lit .u8 2) (u := cl b8 2) H 6 rfl keyU8 Tryz.underlying116 rfl rfl rfl fun w H => ?_)
  refine wpO_val rfl (x_makeFunc (vx := []) (vy := [.pointer (some ⟨b8, 0, none⟩)]) rfl rfl) ?_
  refine wpO_eff0 rfl (e_insert (a := IK.lit .u8 3) (u := cl b8 3) H 6 rfl keyU8 Tryz.underlying116 rfl rfl rfl fun w H => ?_)
  refine wpO_val rfl (x_makeFunc (vx := []) (vy := [.pointer (some ⟨b8, 0, none⟩)]) rfl rfl) ?_
  refine wpO_eff0 rfl (e_insert (a := IK.lit .u8 4) (u := cl b8 4) H 6 rfl keyU8 Tryz.underlying116 rfl rfl rfl fun w H => ?_)
  refine wpO_val rfl (x_makeFunc (vx := []) (vy := [.pointer (some ⟨b8, 0, none⟩)]) rfl rfl) ?_
  refine wpO_eff0 rfl (e_insert (a := IK.lit .u8 5) (u := cl b8 5) H 6 rfl keyU8 Tryz.underlying116 rfl rfl rfl fun w H => ?_)
  have H : Holds c g w ((B.L b ++ [pt b5 (.cells m.v.cells 51), pt b8 (.cells (hearV b fr m).cells 112), mapA b18 (IK.v (k := .u8)) (fun v : Value => v) (hearMap b8)]) ++ F) := H
  refine wpO_val rfl (x_moveM rfl) ?_
  refine wpO_val rfl (x_assignM rfl) ?_
  refine wpO_nil ?_
  refine wpF_seq ?_
  refine wpF_region rfl ?_   -- R5
  refine wpO_val rfl (x_moveM rfl) ?_
  refine wpO_val rfl (x_fieldAddrN Tryz.underlying51 rfl Tryz.sizeOf5 rfl rfl) ?_
  refine wpO_val rfl (x_load0bI Tryz.isAgg5 rfl (H.getF 4 rfl) rfl) ?_
  refine wpO_val rfl (H.lookupOk (a := m.kind) (z := Value.nilFunc) 6 rfl keyU8 Tryz.underlying116 Tryz.zeroValue114 rfl rfl) ?_
  refine wpO_val rfl (x_moveT rfl) ?_
  refine wpO_val rfl (x_extract rfl rfl) ?_
  refine wpO_val rfl (x_extractB rfl rfl) ?_
  refine wpO_val rfl (x_assignV ((kget (hearMap b8) m.kind).getD .nilFunc) rfl) ?_
  refine wpO_val rfl (x_assignB rfl) ?_
  refine wpO_nil ?_
  have hk : (kget (hearMap b8) m.kind).isSome = (decide (1 ≤ m.kind.n) && decide (m.kind.n ≤ 5)) := by
    rw [hearMap_get]; by_cases h : 1 ≤ m.kind.n ∧ m.kind.n ≤ 5
    · rw [if_pos h]; simp [h]
    · rw [if_neg h]; simp; omega
  refine wpF_seq ?_
  refine wpF_seq ?_
  refine wpF_region rfl ?_   -- R6
  refine wpO_val rfl (x_moveB rfl) ?_
  refine wpO_val rfl (x_not rfl) ?_
  refine wpO_val rfl (x_moveB rfl) ?_
  refine wpO_split 34 rfl (fun hb34 => ?_) (fun hb34 => ?_)
  ·
    refine wpO_not rfl ?_
    refine wpO_not rfl ?_
    refine wpO_not rfl ?_
    refine wpO_not rfl ?_
    refine wpO_val rfl (x_pickB rfl rfl) ?_
    refine wpO_val rfl (x_moveB rfl) ?_
    refine wpO_not rfl ?_
    refine wpO_not rfl ?_
    refine wpO_not rfl ?_
    refine wpO_not rfl ?_
    refine wpO_not rfl ?_
    refine wpO_val rfl (x_pickB rfl rfl) ?_
    refine wpO_nil ?_
    refine wpF_true rfl ?_
    refine wpF_seq ?_
    refine wpF_region rfl ?_   -- R7
    refine wpO_val rfl (x_assignL rfl) ?_
    refine wpO_val rfl (x_assignI rfl) ?_
    refine wpO_nil ?_
    refine wpF_ret ?_
    repeat (with_reducible first | refine thenF_r ?_ | refine inBlockF_r ?_)
    refine end_tt rfl rfl rfl ?_   -- tmp:6 tmp:7
    rw [hk] at hb34
    have hE : B.hear fr m = ⟨B, [], 1⟩ := by rw [Bk.hear, if_pos (by rw [Bk.hearBad, hb34]; simp)]
    exact ⟨Sl.nil, by rw [hE]; rfl, by rw [hE]; exact OutsOk.nil, by rw [hE]; exact Holds.noOuts (H.sel [0, 1, 2, 3] 7 rfl rfl)⟩
  ·
    refine wpO_val rfl (x_moveI rfl) ?_
    refine wpO_val rfl (x_moveP rfl) ?_
    refine wpO_eff rfl (e_callF (vs := [.pointer (some ⟨b, 0, none⟩)]) Tryz.call50 rfl ((bSelf_c B H).mono (Ret.mono ?_)))   -- of t36
    rintro v37 w ⟨rfl, H'⟩
    replace H := H.re H' rfl
    refine wpO_val rfl (x_cmp rfl rfl rfl rfl) ?_
    refine wpO_val rfl (x_pickB rfl rfl) ?_
    refine wpO_val rfl (x_moveB rfl) ?_
    refine wpO_split 40 rfl (fun hb40 => ?_) (fun hb40 => ?_)
    ·
      refine wpO_not rfl ?_
      refine wpO_not rfl ?_
      refine wpO_not rfl ?_
      refine wpO_not rfl ?_
      refine wpO_not rfl ?_
      refine wpO_val rfl (x_pickB rfl rfl) ?_
      refine wpO_nil ?_
      refine wpF_true rfl ?_
      refine wpF_seq ?_
      refine wpF_region rfl ?_   -- R7
      refine wpO_val rfl (x_assignL rfl) ?_
      refine wpO_val rfl (x_assignI rfl) ?_
      refine wpO_nil ?_
      refine wpF_ret ?_
      repeat (with_reducible first | refine thenF_r ?_ | refine inBlockF_r ?_)
      refine end_tt rfl rfl rfl ?_   -- tmp:6 tmp:7
      have hE : B.hear fr m = ⟨B, [], 1⟩ := by rw [Bk.hear, if_pos (by rw [Bk.hearBad, hb40]; simp)]
      exact ⟨Sl.nil, by rw [hE]; rfl, by rw [hE]; exact OutsOk.nil, by rw [hE]; exact Holds.noOuts (H.sel [0, 1, 2, 3] 7 rfl rfl)⟩
    ·
      refine wpO_val rfl (x_moveI rfl) ?_
      refine wpO_val rfl (x_conv Tryz.underlying5 Tryz.underlying3 rfl) ?_
      refine wpO_val rfl (x_moveP rfl) ?_
      refine wpO_eff rfl (e_callF (vs := [.pointer (some ⟨b, 0, none⟩)]) Tryz.call51 rfl ((bCarriers_c B H).mono (Ret.mono ?_)))   -- of t43
      rintro v44 w ⟨rfl, H'⟩
      replace H := H.re H' rfl
      refine wpO_val rfl (x_cmp rfl rfl rfl rfl) ?_
      refine wpO_val rfl (x_pickB rfl rfl) ?_
      refine wpO_nil ?_
      rw [hw8]
      refine wpF_cond _ rfl (fun hc46 => ?_) (fun hc46 => ?_)
      ·
        refine wpF_seq ?_
        refine wpF_region rfl ?_   -- R7
        refine wpO_val rfl (x_assignL rfl) ?_
        refine wpO_val rfl (x_assignI rfl) ?_
        refine wpO_nil ?_
        refine wpF_ret ?_
        repeat (with_reducible first | refine thenF_r ?_ | refine inBlockF_r ?_)
        refine end_tt rfl rfl rfl ?_   -- tmp:6 tmp:7
        have hE : B.hear fr m = ⟨B, [], 1⟩ := by rw [Bk.hear, if_pos (by rw [Bk.hearBad, hc46]; simp)]
        exact ⟨Sl.nil, by rw [hE]; rfl, by rw [hE]; exact OutsOk.nil, by rw [hE]; exact Holds.noOuts (H.sel [0, 1, 2, 3] 7 rfl rfl)⟩
      ·
        rw [hk] at hb34
        have h15 : 1 ≤ m.kind.n ∧ m.kind.n ≤ 5 := by simpa using hb34
        have hE : B.hear fr m = B.hearK fr m m.kind.n.toNat := by rw [Bk.hear, if_neg (by rw [Bk.hearBad, hb34, hb40, hc46]; simp)]
        have hcl : (kget (hearMap b8) m.kind).getD .nilFunc = cl b8 m.kind.n.toNat := by rw [hearMap_get, if_pos h15]; rfl
        refine wpF_skip ?_
        refine wpF_seq ?_
        refine wpF_region rfl ?_   -- R8
        refine wpO_val rfl (x_moveV (cl b8 m.kind.n.toNat) hcl) ?_
        refine wpO_eff rfl (e_call (fi := #[]) (ca := #[.pointer (some ⟨b8, 0, none⟩)]) (vs := [.pointer (some ⟨b8, 0, none⟩)]) rfl (clF_call _) rfl ((hearAny_c (F := F) B fr m m.kind.n.toNat (by omega) (by omega) (H.sel [0, 1, 2, 3, 5] 7 rfl rfl)).mono (Ret.mono ?_)))
        rintro v48 w ⟨so, rfl, ho, H⟩
        refine wpO_val rfl (x_extractL rfl rfl) ?_
        refine wpO_val rfl (x_extractI rfl rfl) ?_
        refine wpO_val rfl (x_assignL rfl) ?_
        refine wpO_val rfl (x_assignI rfl) ?_
        refine wpO_nil ?_
        refine wpF_ret ?_
        repeat (with_reducible first | refine thenF_r ?_ | refine inBlockF_r ?_)
        refine end_tt rfl rfl rfl ?_   -- tmp:6 tmp:7
        exact ⟨so, by rw [hE]; rfl, by rw [hE]; exact ho, by rw [hE]; exact H⟩
-- >> hear_c
/-- What asking for control comes to. -/
def Bk.wantNo (B : Bk) (k : Key) : Bool := (kget B.helds k).isSome && (((kget B.helds k).getD Held.zero).here || ((kget B.helds k).getD Held.zero).wanted)
def Bk.wantH (B : Bk) (k : Key) : Bk := B.setHeld k { ((kget B.helds k).getD Held.zero) with wanted := true }
def Bk.want (B : Bk) (k : Key) : HR :=
  if B.wantNo k = true then ⟨B, [], 6⟩
  else if (B.setHeldE k != 0) = true then ⟨B.wantH k, [], B.setHeldE k⟩
  else ⟨B.wantH k, [⟨k.t.car, mWant k⟩], 0⟩
-- << want_c
theorem want_c {c : Cx} {g : Heap} {w : World} {F : List Asn} {b : Nat} (B : Bk) (k : Key) (H : Holds c g w (B.L b ++ F)) :
    Calls Tryz.prog 33 #[.pointer (some ⟨b, 0, none⟩), k.v] w (Ret (HearRet c g F b (B.want k))) := by
  -- tarmac/handover.Want  (function 33; params ['37', '27']; results tmp:4 tmp:5; ntmps 42)
  refine calls_of_wpF Tryz.func33 rfl Tryz.ntmps33 rfl ?_
  refine wpF_seq ?_
  refine wpF_region rfl ?_   -- R0
  refine wpO_eff rfl (e_boxA H rfl fun b3 w H => ?_)
  refine wpO_val rfl (x_assignL rfl) ?_
  refine wpO_val rfl (x_assignI rfl) ?_
  refine wpO_nil ?_
  refine wpF_seq ?_
  refine wpF_seq ?_
  refine wpF_region rfl ?_   -- R1
  refine wpO_val rfl (x_moveP rfl) ?_
  refine wpO_val rfl (x_eqlNil Tryz.underlying37 rfl rfl) ?_
  refine wpO_nil ?_
  refine wpF_false rfl ?_
  refine wpF_skip ?_
  refine wpF_seq ?_
  refine wpF_region rfl ?_   -- R3
  refine wpO_val rfl (x_moveP rfl) ?_
  refine wpO_val rfl (x_load1V k.v Tryz.isAgg27 Tryz.sizeOf27 rfl (H.getF 4 rfl) (by kernel_rfl) (by kernel_rfl)) ?_
  refine wpO_eff rfl (e_callF (vs := [.pointer (some ⟨b, 0, none⟩), k.v]) Tryz.call19 rfl ((bHeld_c B k H).mono (Ret.mono ?_)))   -- of t12 t13
  rintro v14 w ⟨rfl, H'⟩
  replace H := H.re H' rfl
  refine wpO_val rfl (x_moveT rfl) ?_
  refine wpO_val rfl (x_extractA rfl rfl) ?_
  refine wpO_val rfl (x_extractI rfl rfl) ?_
  refine wpO_eff rfl (e_alloc H Tryz.zeroValue64 fun b6 w H => ?_)
  refine wpO_eff0 rfl (e_storeAll (v := ((kget B.helds k).getD Held.zero).v) H 5 rfl Tryz.sizeOf64 rfl rfl rfl rfl (by kernel_rfl) fun w H => ?_)
  refine wpO_val rfl (x_assignI rfl) ?_
  refine wpO_nil ?_
  refine wpF_seq ?_
  refine wpF_seq ?_
  refine wpF_region rfl ?_   -- R4
  refine wpO_val rfl (x_moveI rfl) ?_
  refine wpO_val rfl (x_cmp rfl rfl rfl rfl) ?_
  refine wpO_val rfl (x_moveB rfl) ?_
  have hk : ((if (kget B.helds k).isSome then (0 : Int) else 4) == 0) = (kget B.helds k).isSome := by cases (kget B.helds k).isSome <;> rfl
  refine wpO_split 19 rfl (fun hb19 => ?_) (fun hb19 => ?_)
  ·
    refine wpO_val rfl (x_fieldAddrN Tryz.underlying64 rfl Tryz.sizeOf4 rfl rfl) ?_
    refine wpO_val rfl (x_load0bB Tryz.isAgg4 rfl (H.getF 5 rfl) rfl) ?_
    refine wpO_val rfl (x_moveB rfl) ?_
    refine wpO_split 22 rfl (fun hb22 => ?_) (fun hb22 => ?_)
    ·
      refine wpO_not rfl ?_
      refine wpO_not rfl ?_
      refine wpO_val rfl (x_pickB rfl rfl) ?_
      refine wpO_val rfl (x_pickB rfl rfl) ?_
      refine wpO_nil ?_
      refine wpF_true rfl ?_
      refine wpF_seq ?_
      refine wpF_region rfl ?_   -- R5
      refine wpO_val rfl (x_assignL rfl) ?_
      refine wpO_val rfl (x_assignI rfl) ?_
      refine wpO_nil ?_
      refine wpF_ret ?_
      repeat (with_reducible first | refine thenF_r ?_ | refine inBlockF_r ?_)
      refine end_tt rfl rfl rfl ?_   -- tmp:4 tmp:5
      rw [hk] at hb19
      have hE : B.want k = ⟨B, [], 6⟩ := by rw [Bk.want, if_pos (by rw [Bk.wantNo, hb19, hb22]; rfl)]
      exact ⟨Sl.nil, by rw [hE]; rfl, by rw [hE]; exact OutsOk.nil, by rw [hE]; exact Holds.noOuts (H.sel [0, 1, 2, 3] 6 rfl rfl)⟩
    ·
      refine wpO_val rfl (x_fieldAddrN Tryz.underlying64 rfl Tryz.sizeOf4 rfl rfl) ?_
      refine wpO_val rfl (x_load0bB Tryz.isAgg4 rfl (H.getF 5 rfl) rfl) ?_
      refine wpO_val rfl (x_pickB rfl rfl) ?_
      refine wpO_val rfl (x_pickB rfl rfl) ?_
      refine wpO_nil ?_
      refine wpF_cond _ rfl (fun hc26 => ?_) (fun hc26 => ?_)
      ·
        refine wpF_seq ?_
        refine wpF_region rfl ?_   -- R5
        refine wpO_val rfl (x_assignL rfl) ?_
        refine wpO_val rfl (x_assignI rfl) ?_
        refine wpO_nil ?_
        refine wpF_ret ?_
        repeat (with_reducible first | refine thenF_r ?_ | refine inBlockF_r ?_)
        refine end_tt rfl rfl rfl ?_   -- tmp:4 tmp:5
        rw [hk] at hb19
        have hE : B.want k = ⟨B, [], 6⟩ := by rw [Bk.want, if_pos (by rw [Bk.wantNo, hb19, hb22, hc26]; rfl)]
        exact ⟨Sl.nil, by rw [hE]; rfl, by rw [hE]; exact OutsOk.nil, by rw [hE]; exact Holds.noOuts (H.sel [0, 1, 2, 3] 6 rfl rfl)⟩
      ·
        rw [hk] at hb19
        have hN : ¬ B.wantNo k = true := by rw [Bk.wantNo, hb19, hb22, hc26]; simp
        refine wpF_skip ?_
        refine wpF_seq ?_
        refine wpF_region rfl ?_   -- R6
        refine wpO_val rfl (x_fieldAddrN Tryz.underlying64 rfl Tryz.sizeOf4 rfl rfl) ?_
        refine wpO_eff0 rfl (e_store H 5 rfl Tryz.sizeOf4 rfl rfl rfl rfl rfl fun w H => ?_)
        refine wpO_nil ?_
        refine wpF_seq ?_
        refine wpF_seq ?_
        refine wpF_region rfl ?_   -- R7
        refine wpO_val rfl (x_moveP rfl) ?_
        refine wpO_val rfl (x_load1V k.v Tryz.isAgg27 Tryz.sizeOf27 rfl (H.getF 4 rfl) (by kernel_rfl) (by kernel_rfl)) ?_
        refine wpO_val rfl (x_load1V (({ ((kget B.helds k).getD Held.zero) with wanted := true } : Held).v) Tryz.isAgg64 Tryz.sizeOf64 rfl (H.getF 5 rfl) (by kernel_rfl) (by kernel_rfl)) ?_
        refine wpO_eff rfl (e_callF (vs := [.pointer (some ⟨b, 0, none⟩), k.v, ({ ((kget B.helds k).getD Held.zero) with wanted := true } : Held).v]) Tryz.call18 rfl ((bSetHeld_c B k ({ ((kget B.helds k).getD Held.zero) with wanted := true } : Held) H).mono (Ret.mono ?_)))   -- of t28 t29 t30
        rintro v31 w ⟨rfl, H'⟩
        replace H : Holds c g w (((B.setHeld k ({ ((kget B.helds k).getD Held.zero) with wanted := true } : Held)).L b ++ [_, _]) ++ F) := H'
        refine wpO_val rfl (x_assignI rfl) ?_
        refine wpO_nil ?_
        refine wpF_seq ?_
        refine wpF_region rfl ?_   -- R8
        refine wpO_val rfl (x_moveI rfl) ?_
        refine wpO_val rfl (x_cmp rfl rfl rfl rfl) ?_
        refine wpO_nil ?_
        refine wpF_cond _ rfl (fun hc33 => ?_) (fun hc33 => ?_)
        ·
          refine wpF_seq ?_
          refine wpF_region rfl ?_   -- R9
          refine wpO_val rfl (x_moveI rfl) ?_
          refine wpO_val rfl (x_assignL rfl) ?_
          refine wpO_val rfl (x_assignI rfl) ?_
          refine wpO_nil ?_
          refine wpF_ret ?_
          repeat (with_reducible first | refine thenF_r ?_ | refine inBlockF_r ?_)
          refine end_tt rfl rfl rfl ?_   -- tmp:4 tmp:5
          have hE : B.want k = ⟨B.wantH k, [], B.setHeldE k⟩ := by rw [Bk.want, if_neg hN, if_pos hc33]
          exact ⟨Sl.nil, by rw [hE]; rfl, by rw [hE]; exact OutsOk.nil, by rw [hE]; exact Holds.noOuts (H.sel [0, 1, 2, 3] 6 rfl rfl)⟩
        ·
          have hE : B.want k = ⟨B.wantH k, [⟨k.t.car, mWant k⟩], 0⟩ := by rw [Bk.want, if_neg hN, if_neg (by rw [hc33]; simp)]
          refine wpF_skip ?_
          refine wpF_seq ?_
          refine wpF_region rfl ?_   -- R10
          refine wpO_val rfl (x_fieldAddrN Tryz.underlying27 rfl Tryz.sizeOf25 rfl rfl) ?_
          refine wpO_val rfl (x_fieldAddrN Tryz.underlying25 rfl Tryz.sizeOf5 rfl rfl) ?_
          refine wpO_val rfl (x_load0bI Tryz.isAgg5 rfl (H.getF 4 rfl) rfl) ?_
          refine wpO_val rfl (x_load1V k.v Tryz.isAgg27 Tryz.sizeOf27 rfl (H.getF 4 rfl) (by kernel_rfl) (by kernel_rfl)) ?_
          refine wpO_val rfl (x_buildSt stMessage [.int .u8 1, k.v] rfl (cs := (({ Msg.zero with kind := (IK.lit .u8 1), key := k } : Msg).v).cells) (by kernel_rfl)) ?_
          refine wpO_eff rfl (e_buildSlice H Tryz.underlying182 Tryz.sizeOf51 Tryz.zeroValue51 rfl rfl (vs := [({ Msg.zero with kind := (IK.lit .u8 1), key := k } : Msg).v]) (by kernel_rfl) (by kernel_rfl) (cs := (({ Msg.zero with kind := (IK.lit .u8 1), key := k } : Msg).v).cells.toList) (by kernel_rfl) fun b40 w H => ?_)
          refine wpO_eff rfl (e_callF (vs := [k.t.car.v, .slice (some ⟨b40, 0, none⟩) 1 1]) Tryz.call83 rfl ((tell_c k.t.car ({ Msg.zero with kind := (IK.lit .u8 1), key := k } : Msg) (F := (B.setHeld k ({ ((kget B.helds k).getD Held.zero) with wanted := true } : Held)).L b ++ F) (Holds.sel H [6, 0, 1, 2, 3] 7 rfl rfl)).mono (Ret.mono ?_)))   -- of t37 t40
          rintro v41 w ⟨s41, rfl, ho41, H⟩
          refine wpO_val rfl (x_assignL rfl) ?_
          refine wpO_val rfl (x_assignI rfl) ?_
          refine wpO_nil ?_
          refine wpF_ret ?_
          repeat (with_reducible first | refine thenF_r ?_ | refine inBlockF_r ?_)
          refine end_tt rfl rfl rfl ?_   -- tmp:4 tmp:5
          exact ⟨s41, by rw [hE]; rfl, by rw [hE]; exact ho41, by rw [hE]; exact H⟩
  ·
    rw [hk] at hb19
    have hN : ¬ B.wantNo k = true := by rw [Bk.wantNo, hb19]; simp
    refine wpO_not rfl ?_
    refine wpO_not rfl ?_
    refine wpO_not rfl ?_
    refine wpO_not rfl ?_
    refine wpO_not rfl ?_
    refine wpO_not rfl ?_
    refine wpO_val rfl (x_pickB rfl rfl) ?_
    refine wpO_nil ?_
    refine wpF_false rfl ?_
    refine wpF_skip ?_
    refine wpF_seq ?_
    refine wpF_region rfl ?_   -- R6
    refine wpO_val rfl (x_fieldAddrN Tryz.underlying64 rfl Tryz.sizeOf4 rfl rfl) ?_
    refine wpO_eff0 rfl (e_store H 5 rfl Tryz.sizeOf4 rfl rfl rfl rfl rfl fun w H => ?_)
    refine wpO_nil ?_
    refine wpF_seq ?_
    refine wpF_seq ?_
    refine wpF_region rfl ?_   -- R7
    refine wpO_val rfl (x_moveP rfl) ?_
    refine wpO_val rfl (x_load1V k.v Tryz.isAgg27 Tryz.sizeOf27 rfl (H.getF 4 rfl) (by kernel_rfl) (by kernel_rfl)) ?_
    refine wpO_val rfl (x_load1V (({ ((kget B.helds k).getD Held.zero) with wanted := true } : Held).v) Tryz.isAgg64 Tryz.sizeOf64 rfl (H.getF 5 rfl) (by kernel_rfl) (by kernel_rfl)) ?_
    refine wpO_eff rfl (e_callF (vs := [.pointer (some ⟨b, 0, none⟩), k.v, ({ ((kget B.helds k).getD Held.zero) with wanted := true } : Held).v]) Tryz.call18 rfl ((bSetHeld_c B k ({ ((kget B.helds k).getD Held.zero) with wanted := true } : Held) H).mono (Ret.mono ?_)))   -- of t28 t29 t30
    rintro v31 w ⟨rfl, H'⟩
    replace H : Holds c g w (((B.setHeld k ({ ((kget B.helds k).getD Held.zero) with wanted := true } : Held)).L b ++ [_, _]) ++ F) := H'
    refine wpO_val rfl (x_assignI rfl) ?_
    refine wpO_nil ?_
    refine wpF_seq ?_
    refine wpF_region rfl ?_   -- R8
    refine wpO_val rfl (x_moveI rfl) ?_
    refine wpO_val rfl (x_cmp rfl rfl rfl rfl) ?_
    refine wpO_nil ?_
    refine wpF_cond _ rfl (fun hc33 => ?_) (fun hc33 => ?_)
    ·
      refine wpF_seq ?_
      refine wpF_region rfl ?_   -- R9
      refine wpO_val rfl (x_moveI rfl) ?_
      refine wpO_val rfl (x_assignL rfl) ?_
      refine wpO_val rfl (x_assignI rfl) ?_
      refine wpO_nil ?_
      refine wpF_ret ?_
      repeat (with_reducible first | refine thenF_r ?_ | refine inBlockF_r ?_)
      refine end_tt rfl rfl rfl ?_   -- tmp:4 tmp:5
      have hE : B.want k = ⟨B.wantH k, [], B.setHeldE k⟩ := by rw [Bk.want, if_neg hN, if_pos hc33]
      exact ⟨Sl.nil, by rw [hE]; rfl, by rw [hE]; exact OutsOk.nil, by rw [hE]; exact Holds.noOuts (H.sel [0, 1, 2, 3] 6 rfl rfl)⟩
    ·
      have hE : B.want k = ⟨B.wantH k, [⟨k.t.car, mWant k⟩], 0⟩ := by rw [Bk.want, if_neg hN, if_neg (by rw [hc33]; simp)]
      refine wpF_skip ?_
      refine wpF_seq ?_
      refine wpF_region rfl ?_   -- R10
      refine wpO_val rfl (x_fieldAddrN Tryz.underlying27 rfl Tryz.sizeOf25 rfl rfl) ?_
      refine wpO_val rfl (x_fieldAddrN Tryz.underlying25 rfl Tryz.sizeOf5 rfl rfl) ?_
      refine wpO_val rfl (x_load0bI Tryz.isAgg5 rfl (H.getF 4 rfl) rfl) ?_
      refine wpO_val rfl (x_load1V k.v Tryz.isAgg27 Tryz.sizeOf27 rfl (H.getF 4 rfl) (by kernel_rfl) (by kernel_rfl)) ?_
      refine wpO_val rfl (x_buildSt stMessage [.int .u8 1, k.v] rfl (cs := (({ Msg.zero with kind := (IK.lit .u8 1), key := k } : Msg).v).cells) (by kernel_rfl)) ?_
      refine wpO_eff rfl (e_buildSlice H Tryz.underlying182 Tryz.sizeOf51 Tryz.zeroValue51 rfl rfl (vs := [({ Msg.zero with kind := (IK.lit .u8 1), key := k } : Msg).v]) (by kernel_rfl) (by kernel_rfl) (cs := (({ Msg.zero with kind := (IK.lit .u8 1), key := k } : Msg).v).cells.toList) (by kernel_rfl) fun b40 w H => ?_)
      refine wpO_eff rfl (e_callF (vs := [k.t.car.v, .slice (some ⟨b40, 0, none⟩) 1 1]) Tryz.call83 rfl ((tell_c k.t.car ({ Msg.zero with kind := (IK.lit .u8 1), key := k } : Msg) (F := (B.setHeld k ({ ((kget B.helds k).getD Held.zero) with wanted := true } : Held)).L b ++ F) (Holds.sel H [6, 0, 1, 2, 3] 7 rfl rfl)).mono (Ret.mono ?_)))   -- of t37 t40
      rintro v41 w ⟨s41, rfl, ho41, H⟩
      refine wpO_val rfl (x_assignL rfl) ?_
      refine wpO_val rfl (x_assignI rfl) ?_
      refine wpO_nil ?_
      refine wpF_ret ?_
      repeat (with_reducible first | refine thenF_r ?_ | refine inBlockF_r ?_)
      refine end_tt rfl rfl rfl ?_   -- tmp:4 tmp:5
      exact ⟨s41, by rw [hE]; rfl, by rw [hE]; exact ho41, by rw [hE]; exact H⟩
-- >> want_c
-- << mine_c
theorem mine_c {c : Cx} {g : Heap} {w : World} {F : List Asn} (k : Int) (H : Holds c g w F) :
    Calls Tryz.prog 34 #[.int .u8 k] w (Ret fun v w' => v = .bool (decide (k ≥ 1) && decide (k ≤ 5)) ∧ Holds c g w' F) := by
  have H : Holds c g w ([] ++ F) := H
  -- tarmac/handover.Mine  (function 34; params ['5']; results tmp:2; ntmps 9)
  refine calls_of_wpF Tryz.func34 rfl Tryz.ntmps34 rfl ?_
  refine wpF_seq ?_
  refine wpF_region rfl ?_   -- R0
  refine wpO_val rfl (x_assignB rfl) ?_
  refine wpO_nil ?_
  refine wpF_seq ?_
  refine wpF_region rfl ?_   -- R1
  refine wpO_val rfl (x_moveI rfl) ?_
  refine wpO_val rfl (x_cmp rfl rfl rfl rfl) ?_
  refine wpO_val rfl (x_moveB rfl) ?_
  refine wpO_split 5 rfl (fun hb5 => ?_) (fun hb5 => ?_)
  ·
    refine wpO_val rfl (x_moveI rfl) ?_
    refine wpO_val rfl (x_cmp rfl rfl rfl rfl) ?_
    refine wpO_val rfl (x_pickB rfl rfl) ?_
    refine wpO_val rfl (x_assignB rfl) ?_
    refine wpO_nil ?_
    refine wpF_ret ?_
    repeat (with_reducible first | refine thenF_r ?_ | refine inBlockF_r ?_)
    refine end_t rfl rfl ?_   -- tmp:2
    exact ⟨by rw [hb5]; rfl, H⟩
  ·
    refine wpO_not rfl ?_
    refine wpO_not rfl ?_
    refine wpO_val rfl (x_pickB rfl rfl) ?_
    refine wpO_val rfl (x_assignB rfl) ?_
    refine wpO_nil ?_
    refine wpF_ret ?_
    repeat (with_reducible first | refine thenF_r ?_ | refine inBlockF_r ?_)
    refine end_t rfl rfl ?_   -- tmp:2
    exact ⟨by rw [hb5]; rfl, H⟩
-- >> mine_c
end Go.Proofs.YtfoginganpgmcaaGreat
