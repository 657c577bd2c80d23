/- A book: New, SetOwn, SetHeld. -/
import Derived.Test.YtfoginganpgmcaaGreatBook3
import Derived.Test.YtfoginganpgmcaaGreatCoreN
set_option linter.unusedSimpArgs false
set_option linter.unusedVariables false
namespace Go.Proofs.YtfoginganpgmcaaGreat
open Go Go.Tw
set_option maxRecDepth 100000

def Bk.setOwn (B : Bk) (k : Key) (o : Own) : Bk := if (kget B.owns k).isSome then { B with owns := kput B.owns k o } else B
def Bk.setOwnE (B : Bk) (k : Key) : Int := if (kget B.owns k).isSome then 0 else 4

/-- May a book hold a coupon of this name? -/
def Bk.strange (B : Bk) (k : Key) : Bool := k.t.car.n == B.self.n || decide (k.t.car.n ≥ B.n.n) || decide (k.t.ser.n < 1) || decide (k.t.ser.n > 9999999999) || decide (k.i.n ≥ 4)
def Bk.full (B : Bk) (k : Key) : Bool := (kget B.helds k).isNone && decide (64 ≤ B.helds.length)
def Bk.setHeldE (B : Bk) (k : Key) : Int := if B.strange k then 1 else if B.full k then 3 else 0
def Bk.setHeld (B : Bk) (k : Key) (h : Held) : Bk := if B.setHeldE k = 0 then { B with helds := kput B.helds k h } else B

theorem stBook : StLaw Tryz.prog 105 [(0, 1), (1, 1), (2, 1), (3, 1), (4, 1)] #[.int .u8 0, .int .i64 0, .map none, .map none, .map none] := fun parts => by kernel_rfl
/-- May a carrier have a book? -/
def newOk (self : IK .u8) (n : IK .i64) : Bool := !(decide (n.n < 2) || decide (n.n > 8) || decide (self.n ≥ n.n))
def Bk.new (self : IK .u8) (n : IK .i64) (md mo mh : Nat) : Bk := ⟨self, n, md, mo, mh, [], [], []⟩
-- << bSetOwn_c
theorem bSetOwn_c {c : Cx} {g : Heap} {w : World} {F : List Asn} {b : Nat} (B : Bk) (k : Key) (o : Own) (H : Holds c g w (B.L b ++ F)) :
    Calls Tryz.prog 17 #[.pointer (some ⟨b, 0, none⟩), k.v, o.v] w (Ret fun v w' => v = .int .i64 (B.setOwnE k) ∧ Holds c g w' ((B.setOwn k o).L b ++ F)) := by
  -- (*tarmac/book.Book).SetOwn  (function 17; params ['37', '27', '43']; results tmp:6; ntmps 24)
  refine calls_of_wpF Tryz.func17 rfl Tryz.ntmps17 rfl ?_
  refine wpF_seq ?_
  refine wpF_region rfl ?_   -- R0
  refine wpO_eff rfl (e_boxA H rfl fun b4 w H => ?_)
  refine wpO_eff rfl (e_boxA H rfl fun b5 w H => ?_)
  refine wpO_val rfl (x_assignI rfl) ?_
  refine wpO_nil ?_
  refine wpF_seq ?_
  refine wpF_seq ?_
  refine wpF_region rfl ?_   -- R1
  refine wpO_val rfl (x_moveP rfl) ?_
  refine wpO_val rfl (x_load1 Tryz.isAgg27 Tryz.sizeOf27 rfl (H.getF 4 rfl) rfl) ?_
  refine wpO_eff rfl (e_callF (vs := [.pointer (some ⟨b, 0, none⟩), .func (.func 39) #[] #[], k.v]) Tryz.call38 rfl ((ownGet_c B k H).mono (Ret.mono ?_)))
  rintro v12 w ⟨rfl, H'⟩
  replace H := H.re H' rfl
  refine wpO_val rfl (x_moveT rfl) ?_
  refine wpO_val rfl (x_extractA rfl rfl) ?_
  refine wpO_val rfl (x_extractI rfl rfl) ?_
  refine wpO_eff rfl (e_alloc H Tryz.zeroValue43 fun b7 w H => ?_)
  refine wpO_eff0 rfl (e_storeAll H 6 rfl Tryz.sizeOf43 rfl rfl rfl rfl rfl fun w H => ?_)
  refine wpO_val rfl (x_assignI rfl) ?_
  refine wpO_nil ?_
  refine wpF_seq ?_
  refine wpF_region rfl ?_   -- R2
  refine wpO_val rfl (x_moveI rfl) ?_
  refine wpO_val rfl (x_cmp rfl rfl rfl rfl) ?_
  refine wpO_nil ?_
  refine wpF_cond _ rfl (fun hc => ?_) (fun hc => ?_)   -- t16
  ·
    refine wpF_seq ?_
    refine wpF_region rfl ?_   -- R3
    refine wpO_val rfl (x_moveI rfl) ?_
    refine wpO_val rfl (x_assignI rfl) ?_
    refine wpO_nil ?_
    refine wpF_ret ?_
    repeat (with_reducible first | refine thenF_r ?_ | refine inBlockF_r ?_)
    refine end_t rfl rfl ?_   -- tmp:6
    have hk : (kget B.owns k).isSome = false := by cases h : (kget B.owns k).isSome <;> simp [h] at hc ⊢
    exact ⟨rfl, by rw [show B.setOwn k o = B by simp [Bk.setOwn, hk]]; exact H.sel [0, 1, 2, 3] 7 rfl rfl⟩
  ·
    refine wpF_skip ?_
    refine wpF_seq ?_
    refine wpF_drawC [0, 1, 2, 3, 4, 5, 6] [6] [0, 0, 0, 0, 0, 0, 1] (fun _ _ => True) mixed (by kernel_rfl) rfl fun w hw => ?_   -- R4 DRAWS [(6, 'mapUpdate')]
    have H := H.to hw
    refine wpDC_e rfl rfl rfl rfl (x_moveP rfl) ?_
    refine wpDC_e rfl rfl rfl rfl (x_nilCheck rfl) ?_
    refine wpDC_e rfl rfl rfl rfl (x_fieldAddrN Tryz.underlying105 rfl Tryz.sizeOf102 rfl rfl) ?_
    refine wpDC_e rfl rfl rfl rfl (x_load0bM Tryz.isAgg102 rfl (H.getF 0 rfl) rfl) ?_
    refine wpDC_e rfl rfl rfl rfl (x_load1 Tryz.isAgg27 Tryz.sizeOf27 rfl (H.getF 4 rfl) rfl) ?_
    refine wpDC_e rfl rfl rfl rfl (x_load1 Tryz.isAgg43 Tryz.sizeOf43 rfl (H.getF 5 rfl) rfl) ?_
    refine wpDC_eff0 rfl rfl rfl (e_mapUpdate (a := k) (u := o) H 2 rfl keyKey Tryz.underlying102 rfl rfl rfl fun w H => ⟨trivial, ?_⟩)
    refine wpDC_nil ?_
    refine wpF_seq ?_
    refine wpF_region rfl ?_   -- R5
    refine wpO_val rfl (x_assignI rfl) ?_
    refine wpO_nil ?_
    refine wpF_ret ?_
    repeat (with_reducible first | refine thenF_r ?_ | refine inBlockF_r ?_)
    refine end_t rfl rfl ?_   -- tmp:6
    have hk : (kget B.owns k).isSome = true := by cases h : (kget B.owns k).isSome <;> simp [h] at hc ⊢
    exact ⟨by rw [show B.setOwnE k = 0 by simp [Bk.setOwnE, hk]]; rfl, by rw [show B.setOwn k o = { B with owns := kput B.owns k o } by simp [Bk.setOwn, hk]]; exact H.sel [0, 1, 2, 3] 7 rfl rfl⟩
-- >> bSetOwn_c
-- << bSetHeld_c
theorem bSetHeld_c {c : Cx} {g : Heap} {w : World} {F : List Asn} {b : Nat} (B : Bk) (k : Key) (h : Held) (H : Holds c g w (B.L b ++ F)) :
    Calls Tryz.prog 18 #[.pointer (some ⟨b, 0, none⟩), k.v, h.v] w (Ret fun v w' => v = .int .i64 (B.setHeldE k) ∧ Holds c g w' ((B.setHeld k h).L b ++ F)) := by
  have hw8 : IntKind.i64.wrap k.t.car.n = k.t.car.n := w64 (by have := k.t.car.u8; omega) (by have := k.t.car.u8; omega)
  -- (*tarmac/book.Book).SetHeld  (function 18; params ['37', '27', '64']; results tmp:6; ntmps 71)
  refine calls_of_wpF Tryz.func18 rfl Tryz.ntmps18 rfl ?_
  refine wpF_seq ?_
  refine wpF_region rfl ?_   -- R0
  refine wpO_eff rfl (e_boxA H rfl fun b4 w H => ?_)
  refine wpO_eff rfl (e_boxA H rfl fun b5 w H => ?_)
  refine wpO_val rfl (x_assignI rfl) ?_
  refine wpO_nil ?_
  refine wpF_seq ?_
  refine wpF_seq ?_
  refine wpF_region rfl ?_   -- R1
  refine wpO_val rfl (x_moveP rfl) ?_
  refine wpO_val rfl (x_eqlNil Tryz.underlying37 rfl rfl) ?_
  refine wpO_nil ?_
  refine wpF_false rfl ?_
  refine wpF_skip ?_
  refine wpF_seq ?_
  refine wpF_seq ?_
  refine wpF_region rfl ?_   -- R3
  refine wpO_val rfl (x_fieldAddrN Tryz.underlying27 rfl Tryz.sizeOf25 rfl rfl) ?_
  refine wpO_val rfl (x_load1 Tryz.isAgg25 Tryz.sizeOf25 rfl (H.getF 4 rfl) rfl) ?_
  refine wpO_eff rfl (e_alloc H Tryz.zeroValue25 fun b7 w H => ?_)
  refine wpO_eff0 rfl (e_storeAll H 6 rfl Tryz.sizeOf25 rfl rfl rfl rfl rfl fun w H => ?_)
  refine wpO_nil ?_
  refine wpF_seq ?_
  refine wpF_drawC [0, 1, 2, 3, 4, 5, 6, 7, 8, 9, 10, 11, 12, 13, 14, 15, 16, 17, 18, 19, 20, 21, 22, 23, 24, 25, 26, 27, 28, 29, 30, 31] [] [0, 0, 0, 0, 0, 0, 0, 0, 0, 0, 0, 0, 0, 0, 0, 0, 0, 0, 0, 0, 0, 0, 0, 0, 0, 0, 0, 0, 0, 0, 0, 0] (fun _ _ => True) mixed (by kernel_rfl) rfl fun w hw => ?_   -- R4 DRAWS []
  have H := H.to hw
  refine wpDC_e rfl rfl rfl rfl (x_fieldAddrN Tryz.underlying25 rfl Tryz.sizeOf5 rfl rfl) ?_
  refine wpDC_e rfl rfl rfl rfl (x_load0bI Tryz.isAgg5 rfl (H.getF 6 rfl) rfl) ?_
  refine wpDC_e rfl rfl rfl rfl (x_moveP rfl) ?_
  refine wpDC_e rfl rfl rfl rfl (x_nilCheck rfl) ?_
  refine wpDC_e rfl rfl rfl rfl (x_fieldAddrN Tryz.underlying105 rfl Tryz.sizeOf5 rfl rfl) ?_
  refine wpDC_e rfl rfl rfl rfl (x_load0bI Tryz.isAgg5 rfl (H.getF 0 rfl) rfl) ?_
  refine wpDC_e rfl rfl rfl rfl (x_cmp rfl rfl rfl rfl) ?_
  refine wpDC_e rfl rfl rfl rfl (x_moveB rfl) ?_
  refine wpDC_split 21 rfl (fun hb21 => ?_) (fun hb21 => ?_)
  ·
    refine wpDC_not rfl rfl rfl ?_
    refine wpDC_not rfl rfl rfl ?_
    refine wpDC_not rfl rfl rfl ?_
    refine wpDC_not rfl rfl rfl ?_
    refine wpDC_not rfl rfl rfl ?_
    refine wpDC_not rfl rfl rfl ?_
    refine wpDC_not rfl rfl rfl ?_
    refine wpDC_not rfl rfl rfl ?_
    refine wpDC_e rfl rfl rfl rfl (x_pickB rfl rfl) ?_
    refine wpDC_e rfl rfl rfl rfl (x_moveB rfl) ?_
    refine wpDC_not rfl rfl rfl ?_
    refine wpDC_not rfl rfl rfl ?_
    refine wpDC_not rfl rfl rfl ?_
    refine wpDC_e rfl rfl rfl rfl (x_pickB rfl rfl) ?_
    refine wpDC_e rfl rfl rfl rfl (x_moveB rfl) ?_
    refine wpDC_not rfl rfl rfl ?_
    refine wpDC_not rfl rfl rfl ?_
    refine wpDC_not rfl rfl rfl ?_
    refine wpDC_e rfl rfl rfl rfl (x_pickB rfl rfl) ?_
    refine wpDC_e rfl rfl rfl rfl (x_moveB rfl) ?_
    refine wpDC_not rfl rfl rfl ?_
    refine wpDC_not rfl rfl rfl ?_
    refine wpDC_not rfl rfl rfl ?_
    refine wpDC_e rfl rfl rfl rfl (x_pickB rfl rfl) ?_
    refine wpDC_nil ?_
    refine wpF_true rfl ?_
    refine wpF_seq ?_
    refine wpF_region rfl ?_   -- R5
    refine wpO_val rfl (x_assignI rfl) ?_
    refine wpO_nil ?_
    refine wpF_ret ?_
    repeat (with_reducible first | refine thenF_r ?_ | refine inBlockF_r ?_)
    refine end_t rfl rfl ?_   -- tmp:6
    have hS : B.strange k = true := by simp only [Bk.strange, Bool.or_eq_true]; exact .inl (.inl (.inl (.inl hb21)))
    have hE : B.setHeldE k = 1 := by simp [Bk.setHeldE, hS]
    exact ⟨by rw [hE]; rfl, by rw [show B.setHeld k h = B by simp [Bk.setHeld, hE]]; exact H.sel [0, 1, 2, 3] 7 rfl rfl⟩
  ·
    refine wpDC_e rfl rfl rfl rfl (x_fieldAddrN Tryz.underlying25 rfl Tryz.sizeOf5 rfl rfl) ?_
    refine wpDC_e rfl rfl rfl rfl (x_load0bI Tryz.isAgg5 rfl (H.getF 6 rfl) rfl) ?_
    refine wpDC_e rfl rfl rfl rfl (x_conv Tryz.underlying5 Tryz.underlying3 rfl) ?_
    refine wpDC_e rfl rfl rfl rfl (x_moveP rfl) ?_
    refine wpDC_e rfl rfl rfl rfl (x_nilCheck rfl) ?_
    refine wpDC_e rfl rfl rfl rfl (x_fieldAddrN Tryz.underlying105 rfl Tryz.sizeOf3 rfl rfl) ?_
    refine wpDC_e rfl rfl rfl rfl (x_load0bI Tryz.isAgg3 rfl (H.getF 0 rfl) rfl) ?_
    refine wpDC_e rfl rfl rfl rfl (x_cmp rfl rfl rfl rfl) ?_
    refine wpDC_e rfl rfl rfl rfl (x_pickB rfl rfl) ?_
    refine wpDC_e rfl rfl rfl rfl (x_moveB rfl) ?_
    refine wpDC_split 31 rfl (fun hb31 => ?_) (fun hb31 => ?_)
    ·
      refine wpDC_not rfl rfl rfl ?_
      refine wpDC_not rfl rfl rfl ?_
      refine wpDC_not rfl rfl rfl ?_
      refine wpDC_e rfl rfl rfl rfl (x_pickB rfl rfl) ?_
      refine wpDC_e rfl rfl rfl rfl (x_moveB rfl) ?_
      refine wpDC_not rfl rfl rfl ?_
      refine wpDC_not rfl rfl rfl ?_
      refine wpDC_not rfl rfl rfl ?_
      refine wpDC_e rfl rfl rfl rfl (x_pickB rfl rfl) ?_
      refine wpDC_e rfl rfl rfl rfl (x_moveB rfl) ?_
      refine wpDC_not rfl rfl rfl ?_
      refine wpDC_not rfl rfl rfl ?_
      refine wpDC_not rfl rfl rfl ?_
      refine wpDC_e rfl rfl rfl rfl (x_pickB rfl rfl) ?_
      refine wpDC_nil ?_
      refine wpF_true rfl ?_
      refine wpF_seq ?_
      refine wpF_region rfl ?_   -- R5
      refine wpO_val rfl (x_assignI rfl) ?_
      refine wpO_nil ?_
      refine wpF_ret ?_
      repeat (with_reducible first | refine thenF_r ?_ | refine inBlockF_r ?_)
      refine end_t rfl rfl ?_   -- tmp:6
      have hS : B.strange k = true := by simp only [Bk.strange, Bool.or_eq_true]; exact .inl (.inl (.inl (.inr (by simpa only [hw8] using hb31))))
      have hE : B.setHeldE k = 1 := by simp [Bk.setHeldE, hS]
      exact ⟨by rw [hE]; rfl, by rw [show B.setHeld k h = B by simp [Bk.setHeld, hE]]; exact H.sel [0, 1, 2, 3] 7 rfl rfl⟩
    ·
      refine wpDC_e rfl rfl rfl rfl (x_fieldAddrN Tryz.underlying25 rfl Tryz.sizeOf23 rfl rfl) ?_
      refine wpDC_e rfl rfl rfl rfl (x_load0bI Tryz.isAgg23 rfl (H.getF 6 rfl) rfl) ?_
      refine wpDC_e rfl rfl rfl rfl (x_cmp rfl rfl rfl rfl) ?_
      refine wpDC_e rfl rfl rfl rfl (x_pickB rfl rfl) ?_
      refine wpDC_e rfl rfl rfl rfl (x_moveB rfl) ?_
      refine wpDC_split 36 rfl (fun hb36 => ?_) (fun hb36 => ?_)
      ·
        refine wpDC_not rfl rfl rfl ?_
        refine wpDC_not rfl rfl rfl ?_
        refine wpDC_not rfl rfl rfl ?_
        refine wpDC_e rfl rfl rfl rfl (x_pickB rfl rfl) ?_
        refine wpDC_e rfl rfl rfl rfl (x_moveB rfl) ?_
        refine wpDC_not rfl rfl rfl ?_
        refine wpDC_not rfl rfl rfl ?_
        refine wpDC_not rfl rfl rfl ?_
        refine wpDC_e rfl rfl rfl rfl (x_pickB rfl rfl) ?_
        refine wpDC_nil ?_
        refine wpF_true rfl ?_
        refine wpF_seq ?_
        refine wpF_region rfl ?_   -- R5
        refine wpO_val rfl (x_assignI rfl) ?_
        refine wpO_nil ?_
        refine wpF_ret ?_
        repeat (with_reducible first | refine thenF_r ?_ | refine inBlockF_r ?_)
        refine end_t rfl rfl ?_   -- tmp:6
        have hS : B.strange k = true := by simp only [Bk.strange, Bool.or_eq_true]; exact .inl (.inl (.inr hb36))
        have hE : B.setHeldE k = 1 := by simp [Bk.setHeldE, hS]
        exact ⟨by rw [hE]; rfl, by rw [show B.setHeld k h = B by simp [Bk.setHeld, hE]]; exact H.sel [0, 1, 2, 3] 7 rfl rfl⟩
      ·
        refine wpDC_e rfl rfl rfl rfl (x_fieldAddrN Tryz.underlying25 rfl Tryz.sizeOf23 rfl rfl) ?_
        refine wpDC_e rfl rfl rfl rfl (x_load0bI Tryz.isAgg23 rfl (H.getF 6 rfl) rfl) ?_
        refine wpDC_e rfl rfl rfl rfl (x_cmp rfl rfl rfl rfl) ?_
        refine wpDC_e rfl rfl rfl rfl (x_pickB rfl rfl) ?_
        refine wpDC_e rfl rfl rfl rfl (x_moveB rfl) ?_
        refine wpDC_split 41 rfl (fun hb41 => ?_) (fun hb41 => ?_)
        ·
          refine wpDC_not rfl rfl rfl ?_
          refine wpDC_not rfl rfl rfl ?_
          refine wpDC_not rfl rfl rfl ?_
          refine wpDC_e rfl rfl rfl rfl (x_pickB rfl rfl) ?_
          refine wpDC_nil ?_
          refine wpF_true rfl ?_
          refine wpF_seq ?_
          refine wpF_region rfl ?_   -- R5
          refine wpO_val rfl (x_assignI rfl) ?_
          refine wpO_nil ?_
          refine wpF_ret ?_
          repeat (with_reducible first | refine thenF_r ?_ | refine inBlockF_r ?_)
          refine end_t rfl rfl ?_   -- tmp:6
          have hS : B.strange k = true := by simp only [Bk.strange, Bool.or_eq_true]; exact .inl (.inr hb41)
          have hE : B.setHeldE k = 1 := by simp [Bk.setHeldE, hS]
          exact ⟨by rw [hE]; rfl, by rw [show B.setHeld k h = B by simp [Bk.setHeld, hE]]; exact H.sel [0, 1, 2, 3] 7 rfl rfl⟩
        ·
          refine wpDC_e rfl rfl rfl rfl (x_fieldAddrN Tryz.underlying27 rfl Tryz.sizeOf5 rfl rfl) ?_
          refine wpDC_e rfl rfl rfl rfl (x_load0bI Tryz.isAgg5 rfl (H.getF 4 rfl) rfl) ?_
          refine wpDC_e rfl rfl rfl rfl (x_cmp rfl rfl rfl rfl) ?_
          refine wpDC_e rfl rfl rfl rfl (x_pickB rfl rfl) ?_
          refine wpDC_nil ?_
          refine wpF_cond _ rfl (fun hc => ?_) (fun hc => ?_)   -- t45
          ·
            refine wpF_seq ?_
            refine wpF_region rfl ?_   -- R5
            refine wpO_val rfl (x_assignI rfl) ?_
            refine wpO_nil ?_
            refine wpF_ret ?_
            repeat (with_reducible first | refine thenF_r ?_ | refine inBlockF_r ?_)
            refine end_t rfl rfl ?_   -- tmp:6
            have hS : B.strange k = true := by simp only [Bk.strange, Bool.or_eq_true]; exact .inr hc
            have hE : B.setHeldE k = 1 := by simp [Bk.setHeldE, hS]
            exact ⟨by rw [hE]; rfl, by rw [show B.setHeld k h = B by simp [Bk.setHeld, hE]]; exact H.sel [0, 1, 2, 3] 7 rfl rfl⟩
          ·
            refine wpF_skip ?_
            have hS : B.strange k = false := by simp only [Bk.strange, Bool.or_eq_false_iff]; exact ⟨⟨⟨⟨hb21, by simpa only [hw8] using hb31⟩, hb36⟩, hb41⟩, hc⟩
            refine wpF_seq ?_
            refine wpF_seq ?_
            refine wpF_drawC [0, 1, 2, 3, 4, 5, 6, 7, 8, 9, 10, 11] [9, 10] [1, 1, 1, 1, 1, 1, 1, 1, 2, 2, 2, 2] (RH 1 c (B.L b ++ [pt b4 (.cells k.v.cells 27), pt b5 (.cells h.v.cells 64), pt b7 (.cells k.t.v.cells 25)])) mixed (by kernel_rfl) rfl fun w hw => ?_
            have H := H.to hw
            have H0 : Has c w (B.L b ++ [pt b4 (.cells k.v.cells 27), pt b5 (.cells h.v.cells 64), pt b7 (.cells k.t.v.cells 25)]) := H.has
            refine wpDC_q rfl rfl rfl (fun w => (x_moveP rfl)) ?_
            refine wpDC_q rfl rfl rfl (fun w => (x_nilCheck rfl)) ?_
            refine wpDC_q rfl rfl rfl (fun w => (x_fieldAddrN Tryz.underlying105 rfl Tryz.sizeOf103 rfl rfl)) ?_
            refine wpDC_h rfl rfl rfl rfl rfl H0 (fun w HR => (x_load0bM Tryz.isAgg103 rfl (HR.get 0 rfl) rfl)) ?_
            refine wpDC_h rfl rfl rfl rfl rfl H0 (fun w HR => (x_load1 Tryz.isAgg27 Tryz.sizeOf27 rfl (HR.get 4 rfl) rfl)) ?_
            refine wpDC_h rfl rfl rfl rfl rfl H0 (fun w HR => (HR.lookupOk (a := k) (z := Held.zero) 3 rfl keyKey Tryz.underlying103 Tryz.zeroValue64 rfl rfl)) ?_
            refine wpDC_q rfl rfl rfl (fun w => (x_moveT rfl)) ?_
            refine wpDC_q rfl rfl rfl (fun w => (x_extractA rfl rfl)) ?_
            refine wpDC_q rfl rfl rfl (fun w => (x_extractB rfl rfl)) ?_
            refine wpDC_eff rfl rfl rfl (e_alloc H Tryz.zeroValue64 fun b8 w H => ⟨fun _ => Holds.has (L := (B.L b ++ [pt b4 (.cells k.v.cells 27), pt b5 (.cells h.v.cells 64), pt b7 (.cells k.t.v.cells 25)])) (F := [_] ++ F) H, ?_⟩)
            refine wpDC_eff0 rfl rfl rfl (e_storeAll H 7 rfl Tryz.sizeOf64 rfl rfl rfl rfl rfl fun w H => ⟨fun h => absurd h (by decide), ?_⟩)
            refine wpDC_q rfl rfl rfl (fun w => (x_assignB rfl)) ?_
            refine wpDC_nil ?_
            refine wpF_seq ?_
            refine wpF_region rfl ?_   -- R7
            refine wpO_val rfl (x_moveB rfl) ?_
            refine wpO_val rfl (x_not rfl) ?_
            refine wpO_val rfl (x_moveB rfl) ?_
            refine wpO_split 57 rfl (fun hb57 => ?_) (fun hb57 => ?_)
            ·
              refine wpO_val rfl (x_moveP rfl) ?_
              refine wpO_val rfl (x_nilCheck rfl) ?_
              refine wpO_val rfl (x_fieldAddrN Tryz.underlying105 rfl Tryz.sizeOf103 rfl rfl) ?_
              refine wpO_val rfl (x_load0bM Tryz.isAgg103 rfl (H.getF 0 rfl) rfl) ?_
              refine wpO_val rfl (H.lenMap 3 rfl Tryz.underlying103 rfl) ?_
              refine wpO_val rfl (x_cmp rfl rfl rfl rfl) ?_
              refine wpO_val rfl (x_pickB rfl rfl) ?_
              refine wpO_nil ?_
              refine wpF_cond _ rfl (fun hc => ?_) (fun hc => ?_)   -- t64
              ·
                refine wpF_seq ?_
                refine wpF_region rfl ?_   -- R8
                refine wpO_val rfl (x_assignI rfl) ?_
                refine wpO_nil ?_
                refine wpF_ret ?_
                repeat (with_reducible first | refine thenF_r ?_ | refine inBlockF_r ?_)
                refine end_t rfl rfl ?_   -- tmp:6
                have hE : B.setHeldE k = 3 := by simp [Bk.setHeldE, hS, Bk.full]; simp at hb57 hc; simp [hb57]; omega
                exact ⟨by rw [hE]; rfl, by rw [show B.setHeld k h = B by simp [Bk.setHeld, hE]]; exact H.sel [0, 1, 2, 3] 8 rfl rfl⟩
              ·
                refine wpF_skip ?_
                refine wpF_seq ?_
                refine wpF_drawC [0, 1, 2, 3, 4, 5, 6] [6] [0, 0, 0, 0, 0, 0, 1] (fun _ _ => True) mixed (by kernel_rfl) rfl fun w hw => ?_   -- R9 DRAWS [(6, 'mapUpdate')]
                have H := H.to hw
                refine wpDC_e rfl rfl rfl rfl (x_moveP rfl) ?_
                refine wpDC_e rfl rfl rfl rfl (x_nilCheck rfl) ?_
                refine wpDC_e rfl rfl rfl rfl (x_fieldAddrN Tryz.underlying105 rfl Tryz.sizeOf103 rfl rfl) ?_
                refine wpDC_e rfl rfl rfl rfl (x_load0bM Tryz.isAgg103 rfl (H.getF 0 rfl) rfl) ?_
                refine wpDC_e rfl rfl rfl rfl (x_load1 Tryz.isAgg27 Tryz.sizeOf27 rfl (H.getF 4 rfl) rfl) ?_
                refine wpDC_e rfl rfl rfl rfl (x_load1 Tryz.isAgg64 Tryz.sizeOf64 rfl (H.getF 5 rfl) rfl) ?_
                refine wpDC_eff0 rfl rfl rfl (e_mapUpdate (a := k) (u := h) H 3 rfl keyKey Tryz.underlying103 rfl rfl rfl fun w H => ⟨trivial, ?_⟩)
                refine wpDC_nil ?_
                refine wpF_seq ?_
                refine wpF_region rfl ?_   -- R10
                refine wpO_val rfl (x_assignI rfl) ?_
                refine wpO_nil ?_
                refine wpF_ret ?_
                repeat (with_reducible first | refine thenF_r ?_ | refine inBlockF_r ?_)
                refine end_t rfl rfl ?_   -- tmp:6
                have hE : B.setHeldE k = 0 := by simp [Bk.setHeldE, hS, Bk.full]; simp at hb57 hc; simp [hb57]; omega
                exact ⟨by rw [hE]; rfl, by rw [show B.setHeld k h = { B with helds := kput B.helds k h } by simp [Bk.setHeld, hE]]; exact H.sel [0, 1, 2, 3] 8 rfl rfl⟩
            ·
              refine wpO_not rfl ?_
              refine wpO_not rfl ?_
              refine wpO_not rfl ?_
              refine wpO_not rfl ?_
              refine wpO_not rfl ?_
              refine wpO_not rfl ?_
              refine wpO_val rfl (x_pickB rfl rfl) ?_
              refine wpO_nil ?_
              refine wpF_false rfl ?_
              refine wpF_skip ?_
              refine wpF_seq ?_
              refine wpF_drawC [0, 1, 2, 3, 4, 5, 6] [6] [0, 0, 0, 0, 0, 0, 1] (fun _ _ => True) mixed (by kernel_rfl) rfl fun w hw => ?_   -- R9 DRAWS [(6, 'mapUpdate')]
              have H := H.to hw
              refine wpDC_e rfl rfl rfl rfl (x_moveP rfl) ?_
              refine wpDC_e rfl rfl rfl rfl (x_nilCheck rfl) ?_
              refine wpDC_e rfl rfl rfl rfl (x_fieldAddrN Tryz.underlying105 rfl Tryz.sizeOf103 rfl rfl) ?_
              refine wpDC_e rfl rfl rfl rfl (x_load0bM Tryz.isAgg103 rfl (H.getF 0 rfl) rfl) ?_
              refine wpDC_e rfl rfl rfl rfl (x_load1 Tryz.isAgg27 Tryz.sizeOf27 rfl (H.getF 4 rfl) rfl) ?_
              refine wpDC_e rfl rfl rfl rfl (x_load1 Tryz.isAgg64 Tryz.sizeOf64 rfl (H.getF 5 rfl) rfl) ?_
              refine wpDC_eff0 rfl rfl rfl (e_mapUpdate (a := k) (u := h) H 3 rfl keyKey Tryz.underlying103 rfl rfl rfl fun w H => ⟨trivial, ?_⟩)
              refine wpDC_nil ?_
              refine wpF_seq ?_
              refine wpF_region rfl ?_   -- R10
              refine wpO_val rfl (x_assignI rfl) ?_
              refine wpO_nil ?_
              refine wpF_ret ?_
              repeat (with_reducible first | refine thenF_r ?_ | refine inBlockF_r ?_)
              refine end_t rfl rfl ?_   -- tmp:6
              have hE : B.setHeldE k = 0 := by simp [Bk.setHeldE, hS, Bk.full]; cases hk : kget B.helds k <;> simp [hk] at hb57 ⊢
              exact ⟨by rw [hE]; rfl, by rw [show B.setHeld k h = { B with helds := kput B.helds k h } by simp [Bk.setHeld, hE]]; exact H.sel [0, 1, 2, 3] 8 rfl rfl⟩
-- >> bSetHeld_c
-- << bNew_c
theorem bNew_c {c : Cx} {g : Heap} {w : World} {F : List Asn} (self : IK .u8) (n : IK .i64) (H : Holds c g w F) :
    Calls Tryz.prog 15 #[self.v, n.v] w (Ret fun v w' => (newOk self n = false ∧ v = .tuple #[.pointer none, .int .i64 1] ∧ Holds c g w' F) ∨
      (newOk self n = true ∧ ∃ b md mo mh, v = .tuple #[.pointer (some ⟨b, 0, none⟩), .int .i64 0] ∧ Holds c g w' ((Bk.new self n md mo mh).L b ++ F))) := by
  have H : Holds c g w ([] ++ F) := H
  have hw8 : IntKind.i64.wrap self.n = self.n := w64 (by have := self.u8; omega) (by have := self.u8; omega)
  -- tarmac/book.New  (function 15; params ['5', '3']; results tmp:4 tmp:5; ntmps 25)
  refine calls_of_wpF Tryz.func15 rfl Tryz.ntmps15 rfl ?_
  refine wpF_seq ?_
  refine wpF_region rfl ?_   -- R0
  refine wpO_val rfl (x_assignP rfl) ?_
  refine wpO_val rfl (x_assignI rfl) ?_
  refine wpO_nil ?_
  refine wpF_seq ?_
  refine wpF_seq ?_
  refine wpF_region rfl ?_   -- R1
  refine wpO_val rfl (x_moveI rfl) ?_
  refine wpO_val rfl (x_cmp rfl rfl rfl rfl) ?_
  refine wpO_val rfl (x_moveB rfl) ?_
  refine wpO_split 8 rfl (fun hb8 => ?_) (fun hb8 => ?_)
  ·
    refine wpO_not rfl ?_
    refine wpO_not rfl ?_
    refine wpO_val rfl (x_pickB rfl rfl) ?_
    refine wpO_val rfl (x_moveB rfl) ?_
    refine wpO_not rfl ?_
    refine wpO_not rfl ?_
    refine wpO_not rfl ?_
    refine wpO_not rfl ?_
    refine wpO_val rfl (x_pickB rfl rfl) ?_
    refine wpO_nil ?_
    refine wpF_true rfl ?_
    refine wpF_seq ?_
    refine wpF_region rfl ?_   -- R2
    refine wpO_val rfl (x_assignP rfl) ?_
    refine wpO_val rfl (x_assignI rfl) ?_
    refine wpO_nil ?_
    refine wpF_ret ?_
    repeat (with_reducible first | refine thenF_r ?_ | refine inBlockF_r ?_)
    refine end_tt rfl rfl rfl ?_   -- tmp:4 tmp:5
    exact .inl ⟨by unfold newOk; rw [hb8]; rfl, rfl, H.sel [] 0 rfl rfl⟩
  ·
    refine wpO_val rfl (x_moveI rfl) ?_
    refine wpO_val rfl (x_cmp rfl rfl rfl rfl) ?_
    refine wpO_val rfl (x_pickB rfl rfl) ?_
    refine wpO_val rfl (x_moveB rfl) ?_
    refine wpO_split 12 rfl (fun hb12 => ?_) (fun hb12 => ?_)
    ·
      refine wpO_not rfl ?_
      refine wpO_not rfl ?_
      refine wpO_not rfl ?_
      refine wpO_not rfl ?_
      refine wpO_val rfl (x_pickB rfl rfl) ?_
      refine wpO_nil ?_
      refine wpF_true rfl ?_
      refine wpF_seq ?_
      refine wpF_region rfl ?_   -- R2
      refine wpO_val rfl (x_assignP rfl) ?_
      refine wpO_val rfl (x_assignI rfl) ?_
      refine wpO_nil ?_
      refine wpF_ret ?_
      repeat (with_reducible first | refine thenF_r ?_ | refine inBlockF_r ?_)
      refine end_tt rfl rfl rfl ?_   -- tmp:4 tmp:5
      exact .inl ⟨by unfold newOk; rw [hb12, Bool.or_true]; rfl, rfl, H.sel [] 0 rfl rfl⟩
    ·
      refine wpO_val rfl (x_moveI rfl) ?_
      refine wpO_val rfl (x_conv Tryz.underlying5 Tryz.underlying3 rfl) ?_
      refine wpO_val rfl (x_moveI rfl) ?_
      refine wpO_val rfl (x_cmp rfl rfl rfl rfl) ?_
      refine wpO_val rfl (x_pickB rfl rfl) ?_
      refine wpO_nil ?_
      refine wpF_cond _ rfl (fun hc => ?_) (fun hc => ?_)   -- t17
      ·
        refine wpF_seq ?_
        refine wpF_region rfl ?_   -- R2
        refine wpO_val rfl (x_assignP rfl) ?_
        refine wpO_val rfl (x_assignI rfl) ?_
        refine wpO_nil ?_
        refine wpF_ret ?_
        repeat (with_reducible first | refine thenF_r ?_ | refine inBlockF_r ?_)
        refine end_tt rfl rfl rfl ?_   -- tmp:4 tmp:5
        rw [hw8] at hc
        exact .inl ⟨by unfold newOk; rw [hc, Bool.or_true]; rfl, rfl, H.sel [] 0 rfl rfl⟩
      ·
        refine wpF_skip ?_
        refine wpF_seq ?_
        refine wpF_region rfl ?_   -- R3
        refine wpO_val rfl (x_moveI rfl) ?_
        refine wpO_val rfl (x_moveI rfl) ?_
        refine wpO_eff rfl (e_makeMap H fun b20 w H => ?_)
        refine wpO_eff rfl (e_makeMap H fun b21 w H => ?_)
        refine wpO_eff rfl (e_makeMap H fun b22 w H => ?_)
        refine wpO_val rfl (x_buildSt stBook [self.v, n.v, .map (some b20), .map (some b21), .map (some b22)] rfl (cs := #[self.v, n.v, .map (some b20), .map (some b21), .map (some b22)]) rfl) ?_
        refine wpO_eff rfl (e_boxA H rfl fun b24 w H => ?_)
        refine wpO_val rfl (x_assignP rfl) ?_
        refine wpO_val rfl (x_assignI rfl) ?_
        refine wpO_nil ?_
        refine wpF_ret ?_
        repeat (with_reducible first | refine thenF_r ?_ | refine inBlockF_r ?_)
        refine end_tt rfl rfl rfl ?_   -- tmp:4 tmp:5
        rw [hw8] at hc
        have H := ((H.emptyAt (enc := Ticket.v) (encV := DocP.v) 0 rfl).emptyAt (enc := Key.v) (encV := Own.v) 1 rfl).emptyAt (enc := Key.v) (encV := Held.v) 2 rfl
        exact .inr ⟨by unfold newOk; rw [hb8, hb12, hc]; rfl, b24, b20, b21, b22, rfl, H.sel [3, 0, 1, 2] 4 rfl rfl⟩
-- >> bNew_c
end Go.Proofs.YtfoginganpgmcaaGreat
