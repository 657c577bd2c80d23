/- Handing coupons on. -/
import Derived.Test.YtfoginganpgmcaaGreatBook6
set_option linter.unusedSimpArgs false
set_option linter.unusedVariables false
namespace Go.Tw
open Go
/-- A message for a carrier. -/
structure Out where
  to : IK .u8
  m : Msg
  deriving DecidableEq
def Out.v (o : Out) : Value := .agg #[o.to.v, o.m.kind.v, o.m.key.t.car.v, o.m.key.t.ser.v, o.m.key.i.v, o.m.c.leg.car.v, o.m.c.leg.fl.v, o.m.c.leg.wt.v, o.m.c.val.v, o.m.c.st.v, o.m.c.non.v, o.m.amt.v, o.m.code.v]
/-- A number written out. -/
abbrev IK.lit (k : IntKind) (n : Int) (h1 : k.min ≤ n := by decide) (h2 : n ≤ k.max := by decide) : IK k := ⟨n, h1, h2⟩
end Go.Tw
namespace Go.Proofs.YtfoginganpgmcaaGreat
open Go Go.Tw
set_option maxRecDepth 100000

def Key.zero : Key := ⟨Ticket.zero, IK.lit .u8 0⟩
def Msg.zero : Msg := ⟨IK.lit .u8 0, Key.zero, Coupon.zero, IK.lit .i64 0, IK.lit .i64 0⟩
def Out.zero : Out := ⟨IK.lit .u8 0, Msg.zero⟩
def Ticket.zv : Value := .agg #[.int .u8 0, .int .u64 0]
def mzero : Value := .agg #[.int .u8 0, .int .u8 0, .int .u64 0, .int .u8 0, .int .u8 0, .int .u16 0, .int .u32 0, .int .i64 0, .int .u8 0, .int .u32 0, .int .i64 0, .int .i64 0]
def ozero : Value := .agg #[.int .u8 0, .int .u8 0, .int .u8 0, .int .u64 0, .int .u8 0, .int .u8 0, .int .u16 0, .int .u32 0, .int .i64 0, .int .u8 0, .int .u32 0, .int .i64 0, .int .i64 0]
theorem elMessage : ElLaw Tryz.prog 51 Msg.v 12 := ⟨Tryz.sizeOf51, .inl ⟨Tryz.isAgg51, fun _ => ⟨_, rfl⟩⟩, fun _ => rfl, fun _ => rfl⟩
theorem elOutgo : ElLaw Tryz.prog 53 Out.v 13 := ⟨Tryz.sizeOf53, .inl ⟨Tryz.isAgg53, fun _ => ⟨_, rfl⟩⟩, fun _ => rfl, fun _ => rfl⟩
theorem isOutgo : El Tryz.prog 53 13 80 ozero := ⟨⟨Tryz.t53, by kernel_rfl, rfl, rfl, rfl⟩, rfl, by decide⟩
theorem stOutgo : StLaw Tryz.prog 53 [(0, 1), (1, 12)] ozero.cells := fun parts => by kernel_rfl
theorem stMessage : StLaw Tryz.prog 51 [(0, 1), (1, 3), (4, 6), (10, 1), (11, 1)] mzero.cells := fun parts => by kernel_rfl
theorem stKey : StLaw Tryz.prog 27 [(0, 2), (2, 1)] #[.int .u8 0, .int .u64 0, .int .u8 0] := fun parts => by kernel_rfl
theorem stTicket : StLaw Tryz.prog 25 [(0, 1), (1, 1)] #[.int .u8 0, .int .u64 0] := fun parts => by kernel_rfl
theorem stHeld : StLaw Tryz.prog 64 [(0, 6), (6, 1), (7, 1), (8, 1), (9, 1)] Held.zero.v.cells := fun parts => by kernel_rfl
theorem stOwn : StLaw Tryz.prog 43 [(0, 6), (6, 1), (7, 1), (8, 1), (9, 1)] Own.zero.v.cells := fun parts => by kernel_rfl
theorem stCoupon : StLaw Tryz.prog 34 [(0, 3), (3, 1), (4, 1), (5, 1)] Coupon.zero.v.cells := fun parts => by kernel_rfl

/-- What is told. -/
def outsA (so : Sl) (l : List Out) : Asn := rowE 53 Out.v 13 so l
structure OutsOk (so : Sl) (l : List Out) : Prop where
  len : so.len = l.length
  at_ : l ≠ [] → ∃ b, so.a = some ⟨b, 0, none⟩
theorem _root_.Go.Tw.Holds.noOuts {c : Cx} {g : Heap} {w : World} {L : List Asn} (H : Holds c g w L) : Holds c g w (outsA Sl.nil [] :: L) := Holds.row_nil (E := 53) (m := 13) H
theorem OutsOk.nil : OutsOk Sl.nil [] := ⟨rfl, fun h => absurd rfl h⟩
def mWant (k : Key) : Msg := ⟨IK.lit .u8 1, k, Coupon.zero, IK.lit .i64 0, IK.lit .i64 0⟩
def mGrant (k : Key) (c : Coupon) : Msg := ⟨IK.lit .u8 2, k, c, IK.lit .i64 0, IK.lit .i64 0⟩
def mRefuse (k : Key) (e : IK .i64) : Msg := ⟨IK.lit .u8 3, k, Coupon.zero, IK.lit .i64 0, e⟩
def mRecall (k : Key) : Msg := ⟨IK.lit .u8 4, k, Coupon.zero, IK.lit .i64 0, IK.lit .i64 0⟩
def mReturn (k : Key) (c : Coupon) : Msg := ⟨IK.lit .u8 5, k, c, IK.lit .i64 0, IK.lit .i64 0⟩
/-- A message that comes. -/
def hearV (b : Nat) (fr : IK .u8) (m : Msg) : Value := .agg #[.pointer (some ⟨b, 0, none⟩), fr.v, m.kind.v, m.key.t.car.v, m.key.t.ser.v, m.key.i.v, m.c.leg.car.v, m.c.leg.fl.v, m.c.leg.wt.v, m.c.val.v, m.c.st.v, m.c.non.v, m.amt.v, m.code.v]
/-- Is it held, and did whom the message came from issue it? -/
def Bk.heldIs (B : Bk) (fr : IK .u8) (m : Msg) : Bool := (kget B.helds m.key).isSome && (m.key.t.car.n == fr.n)
/-- Is it away to whom the message came from? -/
def Bk.awayIs (B : Bk) (fr : IK .u8) (m : Msg) : Bool := (kget B.owns m.key).isSome && ((kget B.owns m.key).getD Own.zero).away && (((kget B.owns m.key).getD Own.zero).to.n == fr.n)
-- << tell_c
theorem tell_c {c : Cx} {g : Heap} {w : World} {F : List Asn} {bl : Nat} (to : IK .u8) (m : Msg) (H : Holds c g w ([pt bl (.cells m.v.cells 51)] ++ F)) :
    Calls Tryz.prog 83 #[to.v, .slice (some ⟨bl, 0, none⟩) 1 1] w (Ret fun v w' => ∃ so, v = so.v ∧ OutsOk so [⟨to, m⟩] ∧ Holds c g w' ([outsA so [⟨to, m⟩]] ++ F)) := by
  -- tarmac/handover.tell  (function 83; params ['5', '182']; results tmp:4; ntmps 22)
  refine calls_of_wpF Tryz.func83 rfl Tryz.ntmps83 rfl ?_
  refine wpF_seq ?_
  refine wpF_region rfl ?_   -- R0
  have H := H.nilRowAt (E := 53) (m := 13)
  refine wpO_val rfl (x_assignL rfl) ?_
  refine wpO_nil ?_
  refine wpF_seq ?_
  refine wpF_region rfl ?_   -- R1
  refine wpO_val rfl (x_assignL rfl) ?_
  refine wpO_nil ?_
  refine wpF_seq ?_
  refine wpF_seq ?_
  refine wpF_region rfl ?_   -- R2
  refine wpO_val rfl (x_moveL rfl) ?_
  refine wpO_val rfl (x_lenSl Tryz.underlying182 rfl) ?_
  refine wpO_val rfl (x_moveI rfl) ?_
  refine wpO_nil ?_
  refine wpF_block ?_   -- block 0
  refine wpF_unroll 1 ?_
  refine wpLoop_s ?_
  refine wpF_seq ?_
  refine wpF_region rfl ?_   -- R3
  refine wpO_val rfl (x_cmp rfl rfl rfl rfl) ?_
  refine wpO_nil ?_
  refine wpF_seq ?_
  refine wpF_true rfl ?_
  refine wpF_skip ?_
  refine wpF_seq ?_
  refine wpF_block ?_   -- block 1
  refine wpF_seq ?_
  refine wpF_region rfl ?_   -- R4
  refine wpO_val rfl (x_indexSl Tryz.underlying182 Tryz.sizeOf51 rfl rfl (by decide) (by decide)) ?_
  refine wpO_val rfl (x_load1V m.v Tryz.isAgg51 Tryz.sizeOf51 rfl (H.getF 0 rfl) (by kernel_rfl) (by kernel_rfl)) ?_
  refine wpO_eff rfl (e_alloc H Tryz.zeroValue51 fun b7 w H => ?_)
  refine wpO_eff0 rfl (e_storeAll (v := m.v) H 2 rfl Tryz.sizeOf51 rfl rfl rfl rfl (by kernel_rfl) fun w H => ?_)
  refine wpO_nil ?_
  refine wpF_region rfl ?_   -- R5
  refine wpO_val rfl (x_moveL rfl) ?_
  refine wpO_val rfl (x_moveI rfl) ?_
  refine wpO_val rfl (x_load1V m.v Tryz.isAgg51 Tryz.sizeOf51 rfl (H.getF 2 rfl) (by kernel_rfl) (by kernel_rfl)) ?_
  refine wpO_val rfl (x_buildSt stOutgo [to.v, m.v] rfl (cs := (Out.v ⟨to, m⟩).cells) (by kernel_rfl)) ?_
  refine wpO_eff rfl (e_buildSlice H Tryz.underlying47 Tryz.sizeOf53 Tryz.zeroValue53 rfl rfl (vs := [Out.v ⟨to, m⟩]) (by kernel_rfl) (by kernel_rfl) (cs := (Out.v ⟨to, m⟩).cells.toList) (by kernel_rfl) fun b18 w H => ?_)
  refine wpO_eff rfl (e_append1 (enc := Out.v) (xs := []) ⟨to, m⟩ H 1 3 rfl rfl Tryz.underlying47 isOutgo rfl rfl rfl rfl (by decide) (by decide) fun s19 w hs19 hn19 H => ?_)
  refine wpO_val rfl (x_assignL rfl) ?_
  refine wpO_nil ?_
  refine wpF_region rfl ?_   -- R6
  refine wpO_val rfl (x_arith rfl rfl (fun _ => rfl) rfl) ?_
  refine wpO_val rfl (x_moveI rfl) ?_
  refine wpO_nil ?_
  refine wpLoop_0 ?_
  refine wpF_seq ?_
  refine wpF_region rfl ?_   -- R3
  refine wpO_val rfl (x_cmp rfl rfl rfl rfl) ?_
  refine wpO_nil ?_
  refine wpF_seq ?_
  refine wpF_false rfl ?_
  refine wpF_exit ?_   -- exit 0
  refine wpF_seq ?_
  refine wpF_region rfl ?_   -- R7
  refine wpO_val rfl (x_moveL rfl) ?_
  refine wpO_val rfl (x_assignL rfl) ?_
  refine wpO_nil ?_
  refine wpF_ret ?_
  repeat (with_reducible first | refine thenF_r ?_ | refine inBlockF_r ?_)
  refine end_t rfl rfl ?_   -- tmp:4
  exact ⟨s19, rfl, ⟨hs19, fun _ => hn19⟩, H.sel [1] 4 rfl rfl⟩
-- >> tell_c
-- << free_c
theorem free_c {c : Cx} {g : Heap} {w : World} {F : List Asn} (a : Int) (H : Holds c g w F) :
    Calls Tryz.prog 89 #[.int .u8 a] w (Ret fun v w' => v = .bool (a == 1) ∧ Holds c g w' F) := by
  have H : Holds c g w ([] ++ F) := H
  -- tarmac/coupon.Free  (function 89; params ['32']; results tmp:2; ntmps 5)
  refine calls_of_wpF Tryz.func89 rfl Tryz.ntmps89 rfl ?_
  refine wpF_seq ?_
  refine wpF_region rfl ?_   -- R0
  refine wpO_val rfl (x_assignB rfl) ?_
  refine wpO_nil ?_
  refine wpF_seq ?_
  refine wpF_region rfl ?_   -- R1
  refine wpO_val rfl (x_moveI rfl) ?_
  refine wpO_val rfl (x_cmp rfl rfl rfl rfl) ?_
  refine wpO_val rfl (x_assignB rfl) ?_
  refine wpO_nil ?_
  refine wpF_ret ?_
  repeat (with_reducible first | refine thenF_r ?_ | refine inBlockF_r ?_)
  refine end_t rfl rfl ?_   -- tmp:2
  exact ⟨rfl, H.sel [] 0 rfl rfl⟩
-- >> free_c
-- << refuse_c
theorem refuse_c {c : Cx} {g : Heap} {w : World} {F : List Asn} {b : Nat} (fr : IK .u8) (m : Msg) (e : IK .i64) (H : Holds c g w F) :
    Calls Tryz.prog 88 #[hearV b fr m, e.v] w (Ret fun v w' => ∃ so, v = so.v ∧ OutsOk so [⟨fr, mRefuse m.key e⟩] ∧ Holds c g w' ([outsA so [⟨fr, mRefuse m.key e⟩]] ++ F)) := by
  have H : Holds c g w ([] ++ F) := H
  -- (tarmac/handover.hearing).refuse  (function 88; params ['112', '44']; results tmp:4; ntmps 14)
  refine calls_of_wpF Tryz.func88 rfl Tryz.ntmps88 rfl ?_
  refine wpF_seq ?_
  refine wpF_region rfl ?_   -- R0
  refine wpO_eff rfl (e_boxA H rfl fun b2 w H => ?_)
  refine wpO_val rfl (x_assignL rfl) ?_
  refine wpO_nil ?_
  refine wpF_seq ?_
  refine wpF_region rfl ?_   -- R1
  refine wpO_val rfl (x_fieldAddrN Tryz.underlying112 rfl Tryz.sizeOf5 rfl rfl) ?_
  refine wpO_val rfl (x_load0bI Tryz.isAgg5 rfl (H.getF 0 rfl) rfl) ?_
  refine wpO_val rfl (x_fieldAddrN Tryz.underlying112 rfl Tryz.sizeOf51 rfl rfl) ?_
  refine wpO_val rfl (x_fieldAddrN Tryz.underlying51 rfl Tryz.sizeOf27 rfl rfl) ?_
  refine wpO_val rfl (x_load1 Tryz.isAgg27 Tryz.sizeOf27 rfl (H.getF 0 rfl) rfl) ?_
  refine wpO_val rfl (x_moveI rfl) ?_
  refine wpO_val rfl (x_buildSt stMessage [.int .u8 3, m.key.v, e.v] rfl (cs := (mRefuse m.key e).v.cells) (by kernel_rfl)) ?_
  refine wpO_eff rfl (e_buildSlice H Tryz.underlying182 Tryz.sizeOf51 Tryz.zeroValue51 rfl rfl (vs := [(mRefuse m.key e).v]) rfl rfl (cs := (mRefuse m.key e).v.cells.toList) rfl fun b12 w H => ?_)
  refine wpO_eff rfl (e_callF (vs := [fr.v, .slice (some ⟨b12, 0, none⟩) 1 1]) Tryz.call83 rfl ((tell_c fr (mRefuse m.key e) (F := F) (Holds.sel (L := [_, pt b12 (.cells (mRefuse m.key e).v.cells 51)]) H [1] 2 rfl rfl)).mono (Ret.mono ?_)))
  rintro v13 w ⟨so, rfl, ho, H⟩
  refine wpO_val rfl (x_assignL rfl) ?_
  refine wpO_nil ?_
  refine wpF_ret ?_
  repeat (with_reducible first | refine thenF_r ?_ | refine inBlockF_r ?_)
  refine end_t rfl rfl ?_   -- tmp:4
  exact ⟨so, rfl, ho, H⟩
-- >> refuse_c
-- << heldOf_c
theorem heldOf_c {c : Cx} {g : Heap} {w : World} {F : List Asn} {b : Nat} (B : Bk) (fr : IK .u8) (m : Msg) (H : Holds c g w (B.L b ++ F)) :
    Calls Tryz.prog 90 #[hearV b fr m] w (Ret fun v w' => v = .tuple #[((kget B.helds m.key).getD Held.zero).v, .bool (B.heldIs fr m)] ∧ Holds c g w' (B.L b ++ F)) := by
  -- (tarmac/handover.hearing).held  (function 90; params ['112']; results cell:2 64 tmp:3; ntmps 28)
  refine calls_of_wpF Tryz.func90 rfl Tryz.ntmps90 rfl ?_
  refine wpF_seq ?_
  refine wpF_region rfl ?_   -- R0
  refine wpO_eff rfl (e_boxA H rfl fun b1 w H => ?_)
  refine wpO_eff rfl (e_alloc H Tryz.zeroValue64 fun b2 w H => ?_)
  refine wpO_val rfl (x_assignB rfl) ?_
  refine wpO_nil ?_
  refine wpF_seq ?_
  refine wpF_region rfl ?_   -- R1
  refine wpO_val rfl (x_fieldAddrN Tryz.underlying112 rfl Tryz.sizeOf37 rfl rfl) ?_
  refine wpO_val rfl (x_load0bP Tryz.isAgg37 rfl (H.getF 4 rfl) rfl) ?_
  refine wpO_val rfl (x_fieldAddrN Tryz.underlying112 rfl Tryz.sizeOf51 rfl rfl) ?_
  refine wpO_val rfl (x_fieldAddrN Tryz.underlying51 rfl Tryz.sizeOf27 rfl rfl) ?_
  refine wpO_val rfl (x_load1 Tryz.isAgg27 Tryz.sizeOf27 rfl (H.getF 4 rfl) rfl) ?_
  refine wpO_eff rfl (e_callF (vs := [.pointer (some ⟨b, 0, none⟩), m.key.v]) Tryz.call19 rfl ((bHeld_c B m.key H).mono (Ret.mono ?_)))
  rintro v12 w ⟨rfl, H'⟩
  replace H := H.re H' rfl
  refine wpO_val rfl (x_moveT rfl) ?_
  refine wpO_val rfl (x_extractA rfl rfl) ?_
  refine wpO_val rfl (x_extractI rfl rfl) ?_
  refine wpO_eff rfl (e_alloc H Tryz.zeroValue64 fun b4 w H => ?_)
  refine wpO_eff0 rfl (e_storeAll (v := ((kget B.helds m.key).getD Held.zero).v) H 6 rfl Tryz.sizeOf64 rfl rfl rfl rfl (by kernel_rfl) fun w H => ?_)
  refine wpO_val rfl (x_assignI rfl) ?_
  refine wpO_nil ?_
  refine wpF_seq ?_
  refine wpF_drawC [0, 1, 2, 3, 4, 5, 6, 7, 8, 9, 10, 11, 12, 13, 14] [13] [0, 0, 0, 0, 1, 1, 1, 1, 1, 1, 1, 1, 1, 1, 1] (RH 1 c (B.L b ++ [pt b1 (.cells (hearV b fr m).cells 112)])) mixed (by kernel_rfl) rfl fun w hw => ?_
  have H := H.to hw
  have H0 : Has c w (B.L b ++ [pt b1 (.cells (hearV b fr m).cells 112)]) := Holds.has (F := [_, _] ++ F) H
  refine wpDC_e rfl rfl rfl rfl (x_load1V ((kget B.helds m.key).getD Held.zero).v Tryz.isAgg64 Tryz.sizeOf64 rfl (H.getF 6 rfl) (by kernel_rfl) (by kernel_rfl)) ?_
  refine wpDC_e rfl rfl rfl rfl (x_moveI rfl) ?_
  refine wpDC_e rfl rfl rfl rfl (x_cmp rfl rfl rfl rfl) ?_
  refine wpDC_e rfl rfl rfl rfl (x_moveB rfl) ?_
  refine wpDC_split 18 rfl (fun hb18 => ?_) (fun hb18 => ?_)
  ·
    refine wpDC_q rfl rfl rfl (fun w => (x_fieldAddrN Tryz.underlying112 rfl Tryz.sizeOf51 rfl rfl)) ?_
    refine wpDC_q rfl rfl rfl (fun w => (x_fieldAddrN Tryz.underlying51 rfl Tryz.sizeOf27 rfl rfl)) ?_
    refine wpDC_q rfl rfl rfl (fun w => (x_fieldAddrN Tryz.underlying27 rfl Tryz.sizeOf25 rfl rfl)) ?_
    refine wpDC_q rfl rfl rfl (fun w => (x_fieldAddrN Tryz.underlying25 rfl Tryz.sizeOf5 rfl rfl)) ?_
    refine wpDC_h rfl rfl rfl rfl rfl H0 (fun w HR => (x_load0bI Tryz.isAgg5 rfl (HR.get 4 rfl) rfl)) ?_
    refine wpDC_q rfl rfl rfl (fun w => (x_fieldAddrN Tryz.underlying112 rfl Tryz.sizeOf5 rfl rfl)) ?_
    refine wpDC_h rfl rfl rfl rfl rfl H0 (fun w HR => (x_load0bI Tryz.isAgg5 rfl (HR.get 4 rfl) rfl)) ?_
    refine wpDC_q rfl rfl rfl (fun w => (x_cmp rfl rfl rfl rfl)) ?_
    refine wpDC_q rfl rfl rfl (fun w => (x_pickB rfl rfl)) ?_
    refine wpDC_eff0 rfl rfl rfl (e_storeAll (v := ((kget B.helds m.key).getD Held.zero).v) H 5 rfl Tryz.sizeOf64 rfl rfl rfl rfl (by kernel_rfl) fun w H => ⟨fun _ => Holds.has (L := B.L b ++ [pt b1 (.cells (hearV b fr m).cells 112)]) (F := [_, _] ++ F) H, ?_⟩)
    refine wpDC_q rfl rfl rfl (fun w => (x_assignB rfl)) ?_
    refine wpDC_nil ?_
    refine wpF_ret ?_
    repeat (with_reducible first | refine thenF_r ?_ | refine inBlockF_r ?_)
    refine end_ct rfl rfl rfl Tryz.isAgg64 Tryz.sizeOf64 (H.getF 5 rfl) rfl ?_   -- cell:2 64 tmp:3
    have hE : B.heldIs fr m = (m.key.t.car.n == fr.n) := by
      have : (kget B.helds m.key).isSome = true := by cases hk : (kget B.helds m.key).isSome <;> simp [hk] at hb18 ⊢
      rw [Bk.heldIs, this, Bool.true_and]
    exact ⟨by rw [hE]; rfl, H.sel [0, 1, 2, 3] 7 rfl rfl⟩
  ·
    refine wpDC_not rfl rfl rfl ?_
    refine wpDC_not rfl rfl rfl ?_
    refine wpDC_not rfl rfl rfl ?_
    refine wpDC_not rfl rfl rfl ?_
    refine wpDC_not rfl rfl rfl ?_
    refine wpDC_not rfl rfl rfl ?_
    refine wpDC_not rfl rfl rfl ?_
    refine wpDC_not rfl rfl rfl ?_
    refine wpDC_q rfl rfl rfl (fun w => (x_pickB rfl rfl)) ?_
    refine wpDC_eff0 rfl rfl rfl (e_storeAll (v := ((kget B.helds m.key).getD Held.zero).v) H 5 rfl Tryz.sizeOf64 rfl rfl rfl rfl (by kernel_rfl) fun w H => ⟨fun _ => Holds.has (L := B.L b ++ [pt b1 (.cells (hearV b fr m).cells 112)]) (F := [_, _] ++ F) H, ?_⟩)
    refine wpDC_q rfl rfl rfl (fun w => (x_assignB rfl)) ?_
    refine wpDC_nil ?_
    refine wpF_ret ?_
    repeat (with_reducible first | refine thenF_r ?_ | refine inBlockF_r ?_)
    refine end_ct rfl rfl rfl Tryz.isAgg64 Tryz.sizeOf64 (H.getF 5 rfl) rfl ?_   -- cell:2 64 tmp:3
    have hE : B.heldIs fr m = false := by
      have : (kget B.helds m.key).isSome = false := by cases hk : (kget B.helds m.key).isSome <;> simp [hk] at hb18 ⊢
      rw [Bk.heldIs, this, Bool.false_and]
    exact ⟨by rw [hE]; rfl, H.sel [0, 1, 2, 3] 7 rfl rfl⟩
-- >> heldOf_c
-- << awayOf_c
theorem awayOf_c {c : Cx} {g : Heap} {w : World} {F : List Asn} {b : Nat} (B : Bk) (fr : IK .u8) (m : Msg) (H : Holds c g w (B.L b ++ F)) :
    Calls Tryz.prog 91 #[hearV b fr m] w (Ret fun v w' => v = .tuple #[((kget B.owns m.key).getD Own.zero).v, .bool (B.awayIs fr m)] ∧ Holds c g w' (B.L b ++ F)) := by
  -- (tarmac/handover.hearing).away  (function 91; params ['112']; results cell:2 43 tmp:3; ntmps 29)
  refine calls_of_wpF Tryz.func91 rfl Tryz.ntmps91 rfl ?_
  refine wpF_seq ?_
  refine wpF_region rfl ?_   -- R0
  refine wpO_eff rfl (e_boxA H rfl fun b1 w H => ?_)
  refine wpO_eff rfl (e_alloc H Tryz.zeroValue43 fun b2 w H => ?_)
  refine wpO_val rfl (x_assignB rfl) ?_
  refine wpO_nil ?_
  refine wpF_seq ?_
  refine wpF_region rfl ?_   -- R1
  refine wpO_val rfl (x_fieldAddrN Tryz.underlying112 rfl Tryz.sizeOf37 rfl rfl) ?_
  refine wpO_val rfl (x_load0bP Tryz.isAgg37 rfl (H.getF 4 rfl) rfl) ?_
  refine wpO_val rfl (x_fieldAddrN Tryz.underlying112 rfl Tryz.sizeOf51 rfl rfl) ?_
  refine wpO_val rfl (x_fieldAddrN Tryz.underlying51 rfl Tryz.sizeOf27 rfl rfl) ?_
  refine wpO_val rfl (x_load1 Tryz.isAgg27 Tryz.sizeOf27 rfl (H.getF 4 rfl) rfl) ?_
  refine wpO_eff rfl (e_callF (vs := [.pointer (some ⟨b, 0, none⟩), m.key.v]) Tryz.call10 rfl ((bOwn_c B m.key H).mono (Ret.mono ?_)))
  rintro v12 w ⟨rfl, H'⟩
  replace H := H.re H' rfl
  refine wpO_val rfl (x_moveT rfl) ?_
  refine wpO_val rfl (x_extractA rfl rfl) ?_
  refine wpO_val rfl (x_extractI rfl rfl) ?_
  refine wpO_eff rfl (e_alloc H Tryz.zeroValue43 fun b4 w H => ?_)
  refine wpO_eff0 rfl (e_storeAll (v := ((kget B.owns m.key).getD Own.zero).v) H 6 rfl Tryz.sizeOf43 rfl rfl rfl rfl (by kernel_rfl) fun w H => ?_)
  refine wpO_val rfl (x_assignI rfl) ?_
  refine wpO_nil ?_
  refine wpF_seq ?_
  refine wpF_drawC [0, 1, 2, 3, 4, 5, 6, 7, 8, 9, 10, 11, 12, 13, 14, 15] [14] [0, 0, 0, 0, 0, 0, 0, 0, 1, 1, 1, 1, 1, 1, 1, 1] (RH 1 c (B.L b ++ [pt b1 (.cells (hearV b fr m).cells 112), pt b4 (.cells ((kget B.owns m.key).getD Own.zero).v.cells 43)])) mixed (by kernel_rfl) rfl fun w hw => ?_
  have H := H.to hw
  have H0 : Has c w (B.L b ++ [pt b1 (.cells (hearV b fr m).cells 112), pt b4 (.cells ((kget B.owns m.key).getD Own.zero).v.cells 43)]) := Holds.has (F := F) (Holds.sel H [0, 1, 2, 3, 4, 6] 7 rfl rfl)
  refine wpDC_e rfl rfl rfl rfl (x_load1V ((kget B.owns m.key).getD Own.zero).v Tryz.isAgg43 Tryz.sizeOf43 rfl (H.getF 6 rfl) (by kernel_rfl) (by kernel_rfl)) ?_
  refine wpDC_e rfl rfl rfl rfl (x_moveI rfl) ?_
  refine wpDC_e rfl rfl rfl rfl (x_cmp rfl rfl rfl rfl) ?_
  refine wpDC_e rfl rfl rfl rfl (x_moveB rfl) ?_
  refine wpDC_split 18 rfl (fun hb18 => ?_) (fun hb18 => ?_)
  ·
    refine wpDC_e rfl rfl rfl rfl (x_fieldAddrN Tryz.underlying43 rfl Tryz.sizeOf4 rfl rfl) ?_
    refine wpDC_e rfl rfl rfl rfl (x_load0bB Tryz.isAgg4 rfl (H.getF 6 rfl) rfl) ?_
    refine wpDC_e rfl rfl rfl rfl (x_pickB rfl rfl) ?_
    refine wpDC_e rfl rfl rfl rfl (x_moveB rfl) ?_
    refine wpDC_split 22 rfl (fun hb22 => ?_) (fun hb22 => ?_)
    ·
      refine wpDC_q rfl rfl rfl (fun w => (x_fieldAddrN Tryz.underlying43 rfl Tryz.sizeOf5 rfl rfl)) ?_
      refine wpDC_h rfl rfl rfl rfl rfl H0 (fun w HR => (x_load0bI Tryz.isAgg5 rfl (HR.get 5 rfl) rfl)) ?_
      refine wpDC_q rfl rfl rfl (fun w => (x_fieldAddrN Tryz.underlying112 rfl Tryz.sizeOf5 rfl rfl)) ?_
      refine wpDC_h rfl rfl rfl rfl rfl H0 (fun w HR => (x_load0bI Tryz.isAgg5 rfl (HR.get 4 rfl) rfl)) ?_
      refine wpDC_q rfl rfl rfl (fun w => (x_cmp rfl rfl rfl rfl)) ?_
      refine wpDC_q rfl rfl rfl (fun w => (x_pickB rfl rfl)) ?_
      refine wpDC_eff0 rfl rfl rfl (e_storeAll (v := ((kget B.owns m.key).getD Own.zero).v) H 5 rfl Tryz.sizeOf43 rfl rfl rfl rfl (by kernel_rfl) fun w H => ⟨fun _ => Holds.has (L := (B.L b ++ [pt b1 (.cells (hearV b fr m).cells 112), pt b4 (.cells ((kget B.owns m.key).getD Own.zero).v.cells 43)])) (F := F) (Holds.sel H [0, 1, 2, 3, 4, 6] 7 rfl rfl), ?_⟩)
      refine wpDC_q rfl rfl rfl (fun w => (x_assignB rfl)) ?_
      refine wpDC_nil ?_
      refine wpF_ret ?_
      repeat (with_reducible first | refine thenF_r ?_ | refine inBlockF_r ?_)
      refine end_ct rfl rfl rfl Tryz.isAgg43 Tryz.sizeOf43 (H.getF 5 rfl) rfl ?_   -- cell:2 43 tmp:3
      have hE : B.awayIs fr m = (((kget B.owns m.key).getD Own.zero).to.n == fr.n) := by
        have : (kget B.owns m.key).isSome = true := by cases hk : (kget B.owns m.key).isSome <;> simp [hk] at hb18 ⊢
        rw [Bk.awayIs, this, hb22]; simp
      exact ⟨by rw [hE]; rfl, H.sel [0, 1, 2, 3] 7 rfl rfl⟩
    ·
      refine wpDC_not rfl rfl rfl ?_
      refine wpDC_not rfl rfl rfl ?_
      refine wpDC_not rfl rfl rfl ?_
      refine wpDC_not rfl rfl rfl ?_
      refine wpDC_not rfl rfl rfl ?_
      refine wpDC_q rfl rfl rfl (fun w => (x_pickB rfl rfl)) ?_
      refine wpDC_eff0 rfl rfl rfl (e_storeAll (v := ((kget B.owns m.key).getD Own.zero).v) H 5 rfl Tryz.sizeOf43 rfl rfl rfl rfl (by kernel_rfl) fun w H => ⟨fun _ => Holds.has (L := (B.L b ++ [pt b1 (.cells (hearV b fr m).cells 112), pt b4 (.cells ((kget B.owns m.key).getD Own.zero).v.cells 43)])) (F := F) (Holds.sel H [0, 1, 2, 3, 4, 6] 7 rfl rfl), ?_⟩)
      refine wpDC_q rfl rfl rfl (fun w => (x_assignB rfl)) ?_
      refine wpDC_nil ?_
      refine wpF_ret ?_
      repeat (with_reducible first | refine thenF_r ?_ | refine inBlockF_r ?_)
      refine end_ct rfl rfl rfl Tryz.isAgg43 Tryz.sizeOf43 (H.getF 5 rfl) rfl ?_   -- cell:2 43 tmp:3
      have hE : B.awayIs fr m = false := by rw [Bk.awayIs, hb22]; simp
      exact ⟨by rw [hE]; rfl, H.sel [0, 1, 2, 3] 7 rfl rfl⟩
  ·
    refine wpDC_not rfl rfl rfl ?_
    refine wpDC_not rfl rfl rfl ?_
    refine wpDC_e rfl rfl rfl rfl (x_pickB rfl rfl) ?_
    refine wpDC_e rfl rfl rfl rfl (x_moveB rfl) ?_
    refine wpDC_not rfl rfl rfl ?_
    refine wpDC_not rfl rfl rfl ?_
    refine wpDC_not rfl rfl rfl ?_
    refine wpDC_not rfl rfl rfl ?_
    refine wpDC_not rfl rfl rfl ?_
    refine wpDC_q rfl rfl rfl (fun w => (x_pickB rfl rfl)) ?_
    refine wpDC_eff0 rfl rfl rfl (e_storeAll (v := ((kget B.owns m.key).getD Own.zero).v) H 5 rfl Tryz.sizeOf43 rfl rfl rfl rfl (by kernel_rfl) fun w H => ⟨fun _ => Holds.has (L := (B.L b ++ [pt b1 (.cells (hearV b fr m).cells 112), pt b4 (.cells ((kget B.owns m.key).getD Own.zero).v.cells 43)])) (F := F) (Holds.sel H [0, 1, 2, 3, 4, 6] 7 rfl rfl), ?_⟩)
    refine wpDC_q rfl rfl rfl (fun w => (x_assignB rfl)) ?_
    refine wpDC_nil ?_
    refine wpF_ret ?_
    repeat (with_reducible first | refine thenF_r ?_ | refine inBlockF_r ?_)
    refine end_ct rfl rfl rfl Tryz.isAgg43 Tryz.sizeOf43 (H.getF 5 rfl) rfl ?_   -- cell:2 43 tmp:3
    have hE : B.awayIs fr m = false := by
      have : (kget B.owns m.key).isSome = false := by cases hk : (kget B.owns m.key).isSome <;> simp [hk] at hb18 ⊢
      rw [Bk.awayIs, this, Bool.false_and]; rfl
    exact ⟨by rw [hE]; rfl, H.sel [0, 1, 2, 3] 7 rfl rfl⟩
-- >> awayOf_c
-- << giveBack_c
theorem giveBack_c {c : Cx} {g : Heap} {w : World} {F : List Asn} {b : Nat} (B : Bk) (k : Key) (h : Held) (H : Holds c g w (B.L b ++ F)) :
    Calls Tryz.prog 92 #[.pointer (some ⟨b, 0, none⟩), k.v, h.v] w (Ret fun v w' => ∃ so, v = so.v ∧ OutsOk so [⟨k.t.car, mReturn k h.c⟩] ∧ Holds c g w' ([outsA so [⟨k.t.car, mReturn k h.c⟩]] ++ ((B.setHeld k { h with here := false }).L b ++ F))) := by
  -- tarmac/handover.giveBack  (function 92; params ['37', '27', '64']; results tmp:6; ntmps 21)
  refine calls_of_wpF Tryz.func92 rfl Tryz.ntmps92 rfl ?_
  refine wpF_seq ?_
  refine wpF_region rfl ?_   -- R0
  refine wpO_eff rfl (e_boxA H rfl fun b4 w H => ?_)
  refine wpO_eff rfl (e_boxA H rfl fun b5 w H => ?_)
  refine wpO_val rfl (x_assignL rfl) ?_
  refine wpO_nil ?_
  refine wpF_seq ?_
  refine wpF_region rfl ?_   -- R1
  refine wpO_val rfl (x_fieldAddrN Tryz.underlying64 rfl Tryz.sizeOf4 rfl rfl) ?_
  refine wpO_eff0 rfl (e_store H 5 rfl Tryz.sizeOf4 rfl rfl rfl rfl rfl fun w H => ?_)
  refine wpO_nil ?_
  refine wpF_seq ?_
  refine wpF_region rfl ?_   -- R2
  refine wpO_val rfl (x_moveP rfl) ?_
  refine wpO_val rfl (x_load1V k.v Tryz.isAgg27 Tryz.sizeOf27 rfl (H.getF 4 rfl) (by kernel_rfl) (by kernel_rfl)) ?_
  refine wpO_val rfl (x_load1V (({ h with here := false } : Held).v) Tryz.isAgg64 Tryz.sizeOf64 rfl (H.getF 5 rfl) (by kernel_rfl) (by kernel_rfl)) ?_
  refine wpO_eff rfl (e_callF (vs := [.pointer (some ⟨b, 0, none⟩), k.v, ({ h with here := false } : Held).v]) Tryz.call18 rfl ((bSetHeld_c B k ({ h with here := false } : Held) H).mono (Ret.mono ?_)))   -- of t8 t9 t10
  rintro v11 w ⟨rfl, H'⟩
  replace H : Holds c g w (((B.setHeld k ({ h with here := false } : Held)).L b ++ [_, _]) ++ F) := H'
  refine wpO_nil ?_
  refine wpF_seq ?_
  refine wpF_region rfl ?_   -- R3
  refine wpO_val rfl (x_fieldAddrN Tryz.underlying27 rfl Tryz.sizeOf25 rfl rfl) ?_
  refine wpO_val rfl (x_fieldAddrN Tryz.underlying25 rfl Tryz.sizeOf5 rfl rfl) ?_
  refine wpO_val rfl (x_load0bI Tryz.isAgg5 rfl (H.getF 4 rfl) rfl) ?_
  refine wpO_val rfl (x_load1V k.v Tryz.isAgg27 Tryz.sizeOf27 rfl (H.getF 4 rfl) (by kernel_rfl) (by kernel_rfl)) ?_
  refine wpO_val rfl (x_fieldAddrN Tryz.underlying64 rfl Tryz.sizeOf34 rfl rfl) ?_
  refine wpO_val rfl (x_load1V h.c.v Tryz.isAgg34 Tryz.sizeOf34 rfl (H.getF 5 rfl) (by kernel_rfl) (by kernel_rfl)) ?_
  refine wpO_val rfl (x_buildSt stMessage [.int .u8 5, k.v, h.c.v] rfl (cs := (({ Msg.zero with kind := (IK.lit .u8 5), key := k, c := h.c } : Msg).v).cells) (by kernel_rfl)) ?_
  refine wpO_eff rfl (e_buildSlice H Tryz.underlying182 Tryz.sizeOf51 Tryz.zeroValue51 rfl rfl (vs := [({ Msg.zero with kind := (IK.lit .u8 5), key := k, c := h.c } : Msg).v]) (by kernel_rfl) (by kernel_rfl) (cs := (({ Msg.zero with kind := (IK.lit .u8 5), key := k, c := h.c } : Msg).v).cells.toList) (by kernel_rfl) fun b19 w H => ?_)
  refine wpO_eff rfl (e_callF (vs := [k.t.car.v, .slice (some ⟨b19, 0, none⟩) 1 1]) Tryz.call83 rfl ((tell_c k.t.car ({ Msg.zero with kind := (IK.lit .u8 5), key := k, c := h.c } : Msg) (F := (B.setHeld k ({ h with here := false } : Held)).L b ++ F) (Holds.sel H [6, 0, 1, 2, 3] 7 rfl rfl)).mono (Ret.mono ?_)))   -- of t14 t19
  rintro v20 w ⟨s20, rfl, ho20, H⟩
  refine wpO_val rfl (x_assignL rfl) ?_
  refine wpO_nil ?_
  refine wpF_ret ?_
  repeat (with_reducible first | refine thenF_r ?_ | refine inBlockF_r ?_)
  refine end_t rfl rfl ?_   -- tmp:6
  exact ⟨s20, rfl, ho20, H⟩
-- >> giveBack_c
/-- What a Want comes to. -/
def Bk.hWant (B : Bk) (fr : IK .u8) (m : Msg) : Bk × List Out :=
  if (kget B.owns m.key).isSome = false then (B, [⟨fr, mRefuse m.key (IK.lit .i64 4)⟩])
  else if ((kget B.owns m.key).getD Own.zero).away = true then (B, [⟨fr, mRefuse m.key (IK.lit .i64 160)⟩])
  else if (((kget B.owns m.key).getD Own.zero).c.leg.car.n != fr.n) = true then (B, [⟨fr, mRefuse m.key (IK.lit .i64 1)⟩])
  else if (!(((kget B.owns m.key).getD Own.zero).c.st.n == 1)) = true then (B, [⟨fr, mRefuse m.key (IK.lit .i64 6)⟩])
  else if (((kget B.owns m.key).getD Own.zero).c.non.n == 4294967295) = true then (B, [⟨fr, mRefuse m.key (IK.lit .i64 3)⟩])
  else (B.setOwn m.key { ((kget B.owns m.key).getD Own.zero) with c := { ((kget B.owns m.key).getD Own.zero).c with non := IK.of .u32 (((kget B.owns m.key).getD Own.zero).c.non.n + 1) }, away := true, to := fr },
    [⟨fr, mGrant m.key { ((kget B.owns m.key).getD Own.zero).c with non := IK.of .u32 (((kget B.owns m.key).getD Own.zero).c.non.n + 1) }⟩])
/-- What a Grant comes to. -/
def Bk.hGrantNo (B : Bk) (fr : IK .u8) (m : Msg) : Bool := (m.key.t.car.n != fr.n) || (B.heldIs fr m && (((kget B.helds m.key).getD Held.zero).here || decide (((kget B.helds m.key).getD Held.zero).c.non.n ≥ m.c.non.n)))
def Bk.hGrant (B : Bk) (fr : IK .u8) (m : Msg) : Bk × Int :=
  if B.hGrantNo fr m = true then (B, 0)
  else (B.setHeld m.key { Held.zero with c := m.c, here := true }, if B.setHeldE m.key = 3 then 3 else 0)
/-- What a Recall comes to. -/
def Bk.hRecall (B : Bk) (fr : IK .u8) (m : Msg) : Bk × List Out :=
  if B.heldIs fr m = false then (B, [])
  else if ((kget B.helds m.key).getD Held.zero).here = false then (B, [])
  else if (!(((kget B.helds m.key).getD Held.zero).c.st.n == 1)) = true then (B, [⟨fr, mRefuse m.key (IK.lit .i64 6)⟩])
  else (B.setHeld m.key { ((kget B.helds m.key).getD Held.zero) with here := false }, [⟨m.key.t.car, mReturn m.key ((kget B.helds m.key).getD Held.zero).c⟩])
/-- What a Refuse comes to. -/
def Bk.hRefuseH (B : Bk) (fr : IK .u8) (m : Msg) : Bk := if B.heldIs fr m = true then B.setHeld m.key { ((kget B.helds m.key).getD Held.zero) with wanted := false } else B
def Bk.hRefuseO (B : Bk) (fr : IK .u8) (m : Msg) : Bk := if B.awayIs fr m = true then B.setOwn m.key { ((kget B.owns m.key).getD Own.zero) with asked := false } else B
def Bk.hRefuse (B : Bk) (fr : IK .u8) (m : Msg) : Bk := (B.hRefuseH fr m).hRefuseO fr m
/-- What a Return comes to. -/
def Bk.hReturn (B : Bk) (fr : IK .u8) (m : Msg) : Bk :=
  if (B.awayIs fr m && (((kget B.owns m.key).getD Own.zero).c.non.n == m.c.non.n)) = true then B.setOwn m.key { ((kget B.owns m.key).getD Own.zero) with away := false, asked := false } else B
-- << hWant_c
theorem hWant_c {c : Cx} {g : Heap} {w : World} {F : List Asn} {b : Nat} (B : Bk) (fr : IK .u8) (m : Msg) (H : Holds c g w (B.L b ++ F)) :
    Calls Tryz.prog 41 #[hearV b fr m] w (Ret fun v w' => ∃ so, v = so.v ∧ OutsOk so (B.hWant fr m).2 ∧ Holds c g w' ([outsA so (B.hWant fr m).2] ++ ((B.hWant fr m).1.L b ++ F))) := by
  -- (tarmac/handover.hearing).want  (function 41; params ['112']; results tmp:2; ntmps 76)
  refine calls_of_wpF Tryz.func41 rfl Tryz.ntmps41 rfl ?_
  refine wpF_seq ?_
  refine wpF_region rfl ?_   -- R0
  refine wpO_eff rfl (e_boxA H rfl fun b1 w H => ?_)
  refine wpO_val rfl (x_assignL rfl) ?_
  refine wpO_nil ?_
  refine wpF_seq ?_
  refine wpF_region rfl ?_   -- R1
  refine wpO_val rfl (x_fieldAddrN Tryz.underlying112 rfl Tryz.sizeOf37 rfl rfl) ?_
  refine wpO_val rfl (x_load0bP Tryz.isAgg37 rfl (H.getF 4 rfl) rfl) ?_
  refine wpO_val rfl (x_fieldAddrN Tryz.underlying112 rfl Tryz.sizeOf51 rfl rfl) ?_
  refine wpO_val rfl (x_fieldAddrN Tryz.underlying51 rfl Tryz.sizeOf27 rfl rfl) ?_
  refine wpO_val rfl (x_load1V m.key.v Tryz.isAgg27 Tryz.sizeOf27 rfl (H.getF 4 rfl) (by kernel_rfl) (by kernel_rfl)) ?_
  refine wpO_eff rfl (e_callF (vs := [.pointer (some ⟨b, 0, none⟩), m.key.v]) Tryz.call10 rfl ((bOwn_c B m.key H).mono (Ret.mono ?_)))   -- of t7 t10
  rintro v11 w ⟨rfl, H'⟩
  replace H := H.re H' rfl
  refine wpO_val rfl (x_moveT rfl) ?_
  refine wpO_val rfl (x_extractA rfl rfl) ?_
  refine wpO_val rfl (x_extractI rfl rfl) ?_
  refine wpO_eff rfl (e_alloc H Tryz.zeroValue43 fun b3 w H => ?_)
  refine wpO_eff0 rfl (e_storeAll (v := ((kget B.owns m.key).getD Own.zero).v) H 5 rfl Tryz.sizeOf43 rfl rfl rfl rfl (by kernel_rfl) fun w H => ?_)
  refine wpO_val rfl (x_assignI rfl) ?_
  refine wpO_nil ?_
  refine wpF_seq ?_
  refine wpF_block ?_   -- block 0
  refine wpF_seq ?_
  refine wpF_region rfl ?_   -- R2
  refine wpO_val rfl (x_moveI rfl) ?_
  refine wpO_val rfl (x_cmp rfl rfl rfl rfl) ?_
  refine wpO_val rfl (x_assignB rfl) ?_
  refine wpO_nil ?_
  refine wpF_cond _ rfl (fun hc14 => ?_) (fun hc14 => ?_)
  ·
    have hs : (kget B.owns m.key).isSome = false := by cases hk : (kget B.owns m.key).isSome <;> simp [hk] at hc14 ⊢
    have hE : B.hWant fr m = (B, [⟨fr, mRefuse m.key (IK.lit .i64 4)⟩]) := by simp only [Bk.hWant, hs, if_true]
    refine wpF_seq ?_
    refine wpF_region rfl ?_   -- R3
    refine wpO_val rfl (x_load1V (hearV b fr m) Tryz.isAgg112 Tryz.sizeOf112 rfl (H.getF 4 rfl) (by kernel_rfl) (by kernel_rfl)) ?_
    refine wpO_eff rfl (e_callF (vs := [hearV b fr m, .int .i64 4]) Tryz.call88 rfl ((refuse_c fr m (IK.lit .i64 4) (F := B.L b ++ F) (Holds.sel H [0, 1, 2, 3] 6 rfl rfl)).mono (Ret.mono ?_)))   -- of t17 ('app', 'Go.Value.int', [('app', 'Go.IntKind.i64', []), ('nu
    rintro v18 w ⟨s18, rfl, ho18, H⟩
    refine wpO_val rfl (x_assignL rfl) ?_
    refine wpO_nil ?_
    refine wpF_ret ?_
    repeat (with_reducible first | refine thenF_r ?_ | refine inBlockF_r ?_)
    refine end_t rfl rfl ?_   -- tmp:2
    exact ⟨s18, rfl, by rw [hE]; exact ho18, by rw [hE]; exact H⟩
  ·
    have hs : (kget B.owns m.key).isSome = true := by cases hk : (kget B.owns m.key).isSome <;> simp [hk] at hc14 ⊢
    refine wpF_seq ?_
    refine wpF_region rfl ?_   -- R4
    refine wpO_val rfl (x_fieldAddrN Tryz.underlying43 rfl Tryz.sizeOf4 rfl rfl) ?_
    refine wpO_val rfl (x_load0bB Tryz.isAgg4 rfl (H.getF 5 rfl) rfl) ?_
    refine wpO_val rfl (x_assignB rfl) ?_
    refine wpO_nil ?_
    refine wpF_cond _ rfl (fun hc19 => ?_) (fun hc19 => ?_)
    ·
      have hE : B.hWant fr m = (B, [⟨fr, mRefuse m.key (IK.lit .i64 160)⟩]) := by simp only [Bk.hWant, hs, hc19, if_true, if_false, Bool.true_eq_false, Bool.false_eq_true]
      refine wpF_seq ?_
      refine wpF_region rfl ?_   -- R5
      refine wpO_val rfl (x_load1V (hearV b fr m) Tryz.isAgg112 Tryz.sizeOf112 rfl (H.getF 4 rfl) (by kernel_rfl) (by kernel_rfl)) ?_
      refine wpO_eff rfl (e_callF (vs := [hearV b fr m, .int .i64 160]) Tryz.call88 rfl ((refuse_c fr m (IK.lit .i64 160) (F := B.L b ++ F) (Holds.sel H [0, 1, 2, 3] 6 rfl rfl)).mono (Ret.mono ?_)))   -- of t22 ('app', 'Go.Value.int', [('app', 'Go.IntKind.i64', []), ('nu
      rintro v23 w ⟨s23, rfl, ho23, H⟩
      refine wpO_val rfl (x_assignL rfl) ?_
      refine wpO_nil ?_
      refine wpF_ret ?_
      repeat (with_reducible first | refine thenF_r ?_ | refine inBlockF_r ?_)
      refine end_t rfl rfl ?_   -- tmp:2
      exact ⟨s23, rfl, by rw [hE]; exact ho23, by rw [hE]; exact H⟩
    ·
      refine wpF_seq ?_
      refine wpF_region rfl ?_   -- R6
      refine wpO_val rfl (x_fieldAddrN Tryz.underlying43 rfl Tryz.sizeOf34 rfl rfl) ?_
      refine wpO_val rfl (x_fieldAddrN Tryz.underlying34 rfl Tryz.sizeOf31 rfl rfl) ?_
      refine wpO_val rfl (x_fieldAddrN Tryz.underlying31 rfl Tryz.sizeOf5 rfl rfl) ?_
      refine wpO_val rfl (x_load0bI Tryz.isAgg5 rfl (H.getF 5 rfl) rfl) ?_
      refine wpO_val rfl (x_fieldAddrN Tryz.underlying112 rfl Tryz.sizeOf5 rfl rfl) ?_
      refine wpO_val rfl (x_load0bI Tryz.isAgg5 rfl (H.getF 4 rfl) rfl) ?_
      refine wpO_val rfl (x_cmp rfl rfl rfl rfl) ?_
      refine wpO_val rfl (x_assignB rfl) ?_
      refine wpO_nil ?_
      refine wpF_cond _ rfl (fun hc24 => ?_) (fun hc24 => ?_)
      ·
        have hE : B.hWant fr m = (B, [⟨fr, mRefuse m.key (IK.lit .i64 1)⟩]) := by simp only [Bk.hWant, hs, hc19, hc24, if_true, if_false, Bool.true_eq_false, Bool.false_eq_true]
        refine wpF_seq ?_
        refine wpF_region rfl ?_   -- R7
        refine wpO_val rfl (x_load1V (hearV b fr m) Tryz.isAgg112 Tryz.sizeOf112 rfl (H.getF 4 rfl) (by kernel_rfl) (by kernel_rfl)) ?_
        refine wpO_eff rfl (e_callF (vs := [hearV b fr m, .int .i64 1]) Tryz.call88 rfl ((refuse_c fr m (IK.lit .i64 1) (F := B.L b ++ F) (Holds.sel H [0, 1, 2, 3] 6 rfl rfl)).mono (Ret.mono ?_)))   -- of t32 ('app', 'Go.Value.int', [('app', 'Go.IntKind.i64', []), ('nu
        rintro v33 w ⟨s33, rfl, ho33, H⟩
        refine wpO_val rfl (x_assignL rfl) ?_
        refine wpO_nil ?_
        refine wpF_ret ?_
        repeat (with_reducible first | refine thenF_r ?_ | refine inBlockF_r ?_)
        refine end_t rfl rfl ?_   -- tmp:2
        exact ⟨s33, rfl, by rw [hE]; exact ho33, by rw [hE]; exact H⟩
      ·
        refine wpF_seq ?_
        refine wpF_region rfl ?_   -- R8
        refine wpO_val rfl (x_fieldAddrN Tryz.underlying43 rfl Tryz.sizeOf34 rfl rfl) ?_
        refine wpO_val rfl (x_fieldAddrN Tryz.underlying34 rfl Tryz.sizeOf32 rfl rfl) ?_
        refine wpO_val rfl (x_load0bI Tryz.isAgg32 rfl (H.getF 5 rfl) rfl) ?_
        refine wpO_eff rfl (e_callF (vs := [((((kget B.owns m.key).getD Own.zero).c).st).v]) Tryz.call89 rfl ((free_c _ H).mono (Ret.mono ?_)))   -- of t37
        rintro v38 w ⟨rfl, H'⟩
        replace H := H.re H' rfl
        refine wpO_val rfl (x_not rfl) ?_
        refine wpO_val rfl (x_assignB rfl) ?_
        refine wpO_nil ?_
        refine wpF_cond _ rfl (fun hc34 => ?_) (fun hc34 => ?_)
        ·
          have hE : B.hWant fr m = (B, [⟨fr, mRefuse m.key (IK.lit .i64 6)⟩]) := by simp only [Bk.hWant, hs, hc19, hc24, hc34, if_true, if_false, Bool.true_eq_false, Bool.false_eq_true]
          refine wpF_seq ?_
          refine wpF_region rfl ?_   -- R9
          refine wpO_val rfl (x_load1V (hearV b fr m) Tryz.isAgg112 Tryz.sizeOf112 rfl (H.getF 4 rfl) (by kernel_rfl) (by kernel_rfl)) ?_
          refine wpO_eff rfl (e_callF (vs := [hearV b fr m, .int .i64 6]) Tryz.call88 rfl ((refuse_c fr m (IK.lit .i64 6) (F := B.L b ++ F) (Holds.sel H [0, 1, 2, 3] 6 rfl rfl)).mono (Ret.mono ?_)))   -- of t40 ('app', 'Go.Value.int', [('app', 'Go.IntKind.i64', []), ('nu
          rintro v41 w ⟨s41, rfl, ho41, H⟩
          refine wpO_val rfl (x_assignL rfl) ?_
          refine wpO_nil ?_
          refine wpF_ret ?_
          repeat (with_reducible first | refine thenF_r ?_ | refine inBlockF_r ?_)
          refine end_t rfl rfl ?_   -- tmp:2
          exact ⟨s41, rfl, by rw [hE]; exact ho41, by rw [hE]; exact H⟩
        ·
          refine wpF_seq ?_
          refine wpF_region rfl ?_   -- R10
          refine wpO_val rfl (x_fieldAddrN Tryz.underlying43 rfl Tryz.sizeOf34 rfl rfl) ?_
          refine wpO_val rfl (x_fieldAddrN Tryz.underlying34 rfl Tryz.sizeOf29 rfl rfl) ?_
          refine wpO_val rfl (x_load0bI Tryz.isAgg29 rfl (H.getF 5 rfl) rfl) ?_
          refine wpO_val rfl (x_cmp rfl rfl rfl rfl) ?_
          refine wpO_val rfl (x_assignB rfl) ?_
          refine wpO_nil ?_
          refine wpF_cond _ rfl (fun hc42 => ?_) (fun hc42 => ?_)
          ·
            have hE : B.hWant fr m = (B, [⟨fr, mRefuse m.key (IK.lit .i64 3)⟩]) := by simp only [Bk.hWant, hs, hc19, hc24, hc34, hc42, if_true, if_false, Bool.true_eq_false, Bool.false_eq_true]
            refine wpF_seq ?_
            refine wpF_region rfl ?_   -- R11
            refine wpO_val rfl (x_load1V (hearV b fr m) Tryz.isAgg112 Tryz.sizeOf112 rfl (H.getF 4 rfl) (by kernel_rfl) (by kernel_rfl)) ?_
            refine wpO_eff rfl (e_callF (vs := [hearV b fr m, .int .i64 3]) Tryz.call88 rfl ((refuse_c fr m (IK.lit .i64 3) (F := B.L b ++ F) (Holds.sel H [0, 1, 2, 3] 6 rfl rfl)).mono (Ret.mono ?_)))   -- of t47 ('app', 'Go.Value.int', [('app', 'Go.IntKind.i64', []), ('nu
            rintro v48 w ⟨s48, rfl, ho48, H⟩
            refine wpO_val rfl (x_assignL rfl) ?_
            refine wpO_nil ?_
            refine wpF_ret ?_
            repeat (with_reducible first | refine thenF_r ?_ | refine inBlockF_r ?_)
            refine end_t rfl rfl ?_   -- tmp:2
            exact ⟨s48, rfl, by rw [hE]; exact ho48, by rw [hE]; exact H⟩
          ·
            have hE : B.hWant fr m = (B.setOwn m.key { ((kget B.owns m.key).getD Own.zero) with c := { ((kget B.owns m.key).getD Own.zero).c with non := IK.of .u32 (((kget B.owns m.key).getD Own.zero).c.non.n + 1) }, away := true, to := fr },
                [⟨fr, mGrant m.key { ((kget B.owns m.key).getD Own.zero).c with non := IK.of .u32 (((kget B.owns m.key).getD Own.zero).c.non.n + 1) }⟩]) := by simp only [Bk.hWant, hs, hc19, hc24, hc34, hc42, if_true, if_false, Bool.true_eq_false, Bool.false_eq_true]
            refine wpF_skip ?_
            refine wpF_seq ?_
            refine wpF_region rfl ?_   -- R12
            refine wpO_val rfl (x_fieldAddrN Tryz.underlying43 rfl Tryz.sizeOf34 rfl rfl) ?_
            refine wpO_val rfl (x_fieldAddrN Tryz.underlying34 rfl Tryz.sizeOf29 rfl rfl) ?_
            refine wpO_val rfl (x_load0bI Tryz.isAgg29 rfl (H.getF 5 rfl) rfl) ?_
            refine wpO_val rfl (x_arith rfl rfl (fun _ => rfl) rfl) ?_
            refine wpO_val rfl (x_fieldAddrN Tryz.underlying43 rfl Tryz.sizeOf34 rfl rfl) ?_
            refine wpO_val rfl (x_fieldAddrN Tryz.underlying34 rfl Tryz.sizeOf29 rfl rfl) ?_
            refine wpO_eff0 rfl (e_store H 5 rfl Tryz.sizeOf29 rfl rfl rfl rfl rfl fun w H => ?_)
            refine wpO_nil ?_
            refine wpF_seq ?_
            refine wpF_drawC [0, 1, 2, 3, 4, 5] [3, 5] [1, 1, 0, 2, 1, 2] (RH 1 c (B.L b ++ [pt b1 (.cells (hearV b fr m).cells 112)])) mixed (by kernel_rfl) rfl fun w hw => ?_   -- R13 DRAWS [(3, 'store'), (5, 'store')]
            have H := H.to hw
            have H0 : Has c w (B.L b ++ [pt b1 (.cells (hearV b fr m).cells 112)]) := Holds.has (F := F) (Holds.sel H [0, 1, 2, 3, 4] 6 rfl rfl)
            refine wpDC_q rfl rfl rfl (fun w => (x_fieldAddrN Tryz.underlying112 rfl Tryz.sizeOf5 rfl rfl)) ?_
            refine wpDC_h rfl rfl rfl rfl rfl H0 (fun w HR => (x_load0bI Tryz.isAgg5 rfl (HR.get 4 rfl) rfl)) ?_
            refine wpDC_e rfl rfl rfl rfl (x_fieldAddrN Tryz.underlying43 rfl Tryz.sizeOf4 rfl rfl) ?_
            refine wpDC_eff0 rfl rfl rfl (e_store H 5 rfl Tryz.sizeOf4 rfl rfl rfl rfl rfl fun w H => ⟨fun _ => Holds.has (L := (B.L b ++ [pt b1 (.cells (hearV b fr m).cells 112)])) (F := F) (Holds.sel H [0, 1, 2, 3, 4] 6 rfl rfl), ?_⟩)
            refine wpDC_q rfl rfl rfl (fun w => (x_fieldAddrN Tryz.underlying43 rfl Tryz.sizeOf5 rfl rfl)) ?_
            refine wpDC_eff0 rfl rfl rfl (e_store H 5 rfl Tryz.sizeOf5 rfl rfl rfl rfl rfl fun w H => ⟨fun h => absurd h (by decide), ?_⟩)
            refine wpDC_nil ?_
            refine wpF_seq ?_
            refine wpF_region rfl ?_   -- R14
            refine wpO_val rfl (x_fieldAddrN Tryz.underlying112 rfl Tryz.sizeOf37 rfl rfl) ?_
            refine wpO_val rfl (x_load0bP Tryz.isAgg37 rfl (H.getF 4 rfl) rfl) ?_
            refine wpO_val rfl (x_fieldAddrN Tryz.underlying112 rfl Tryz.sizeOf51 rfl rfl) ?_
            refine wpO_val rfl (x_fieldAddrN Tryz.underlying51 rfl Tryz.sizeOf27 rfl rfl) ?_
            refine wpO_val rfl (x_load1V m.key.v Tryz.isAgg27 Tryz.sizeOf27 rfl (H.getF 4 rfl) (by kernel_rfl) (by kernel_rfl)) ?_
            refine wpO_val rfl (x_load1V (({ ((kget B.owns m.key).getD Own.zero) with c := ({ ((kget B.owns m.key).getD Own.zero).c with non := (IK.of .u32 (((((kget B.owns m.key).getD Own.zero).c).non).n + 1)) } : Coupon), away := true, to := fr } : Own).v) Tryz.isAgg43 Tryz.sizeOf43 rfl (H.getF 5 rfl) (by kernel_rfl) (by kernel_rfl)) ?_
            refine wpO_eff rfl (e_callF (vs := [.pointer (some ⟨b, 0, none⟩), m.key.v, ({ ((kget B.owns m.key).getD Own.zero) with c := ({ ((kget B.owns m.key).getD Own.zero).c with non := (IK.of .u32 (((((kget B.owns m.key).getD Own.zero).c).non).n + 1)) } : Coupon), away := true, to := fr } : Own).v]) Tryz.call17 rfl ((bSetOwn_c B m.key ({ ((kget B.owns m.key).getD Own.zero) with c := ({ ((kget B.owns m.key).getD Own.zero).c with non := (IK.of .u32 (((((kget B.owns m.key).getD Own.zero).c).non).n + 1)) } : Coupon), away := true, to := fr } : Own) H).mono (Ret.mono ?_)))   -- of t60 t63 t64
            rintro v65 w ⟨rfl, H'⟩
            replace H : Holds c g w (((B.setOwn m.key ({ ((kget B.owns m.key).getD Own.zero) with c := ({ ((kget B.owns m.key).getD Own.zero).c with non := (IK.of .u32 (((((kget B.owns m.key).getD Own.zero).c).non).n + 1)) } : Coupon), away := true, to := fr } : Own)).L b ++ [_, _]) ++ F) := H'
            refine wpO_nil ?_
            refine wpF_seq ?_
            refine wpF_region rfl ?_   -- R15
            refine wpO_val rfl (x_fieldAddrN Tryz.underlying112 rfl Tryz.sizeOf5 rfl rfl) ?_
            refine wpO_val rfl (x_load0bI Tryz.isAgg5 rfl (H.getF 4 rfl) rfl) ?_
            refine wpO_val rfl (x_fieldAddrN Tryz.underlying112 rfl Tryz.sizeOf51 rfl rfl) ?_
            refine wpO_val rfl (x_fieldAddrN Tryz.underlying51 rfl Tryz.sizeOf27 rfl rfl) ?_
            refine wpO_val rfl (x_load1V m.key.v Tryz.isAgg27 Tryz.sizeOf27 rfl (H.getF 4 rfl) (by kernel_rfl) (by kernel_rfl)) ?_
            refine wpO_val rfl (x_fieldAddrN Tryz.underlying43 rfl Tryz.sizeOf34 rfl rfl) ?_
            refine wpO_val rfl (x_load1V (({ ((kget B.owns m.key).getD Own.zero).c with non := (IK.of .u32 (((((kget B.owns m.key).getD Own.zero).c).non).n + 1)) } : Coupon).v) Tryz.isAgg34 Tryz.sizeOf34 rfl (H.getF 5 rfl) (by kernel_rfl) (by kernel_rfl)) ?_
            refine wpO_val rfl (x_buildSt stMessage [.int .u8 2, m.key.v, ({ ((kget B.owns m.key).getD Own.zero).c with non := (IK.of .u32 (((((kget B.owns m.key).getD Own.zero).c).non).n + 1)) } : Coupon).v] rfl (cs := (({ Msg.zero with kind := (IK.lit .u8 2), key := m.key, c := ({ ((kget B.owns m.key).getD Own.zero).c with non := (IK.of .u32 (((((kget B.owns m.key).getD Own.zero).c).non).n + 1)) } : Coupon) } : Msg).v).cells) (by kernel_rfl)) ?_
            refine wpO_eff rfl (e_buildSlice H Tryz.underlying182 Tryz.sizeOf51 Tryz.zeroValue51 rfl rfl (vs := [({ Msg.zero with kind := (IK.lit .u8 2), key := m.key, c := ({ ((kget B.owns m.key).getD Own.zero).c with non := (IK.of .u32 (((((kget B.owns m.key).getD Own.zero).c).non).n + 1)) } : Coupon) } : Msg).v]) (by kernel_rfl) (by kernel_rfl) (cs := (({ Msg.zero with kind := (IK.lit .u8 2), key := m.key, c := ({ ((kget B.owns m.key).getD Own.zero).c with non := (IK.of .u32 (((((kget B.owns m.key).getD Own.zero).c).non).n + 1)) } : Coupon) } : Msg).v).cells.toList) (by kernel_rfl) fun b74 w H => ?_)
            refine wpO_eff rfl (e_callF (vs := [fr.v, .slice (some ⟨b74, 0, none⟩) 1 1]) Tryz.call83 rfl ((tell_c fr ({ Msg.zero with kind := (IK.lit .u8 2), key := m.key, c := ({ ((kget B.owns m.key).getD Own.zero).c with non := (IK.of .u32 (((((kget B.owns m.key).getD Own.zero).c).non).n + 1)) } : Coupon) } : Msg) (F := (B.setOwn m.key ({ ((kget B.owns m.key).getD Own.zero) with c := ({ ((kget B.owns m.key).getD Own.zero).c with non := (IK.of .u32 (((((kget B.owns m.key).getD Own.zero).c).non).n + 1)) } : Coupon), away := true, to := fr } : Own)).L b ++ F) (Holds.sel H [6, 0, 1, 2, 3] 7 rfl rfl)).mono (Ret.mono ?_)))   -- of t67 t74
            rintro v75 w ⟨s75, rfl, ho75, H⟩
            refine wpO_val rfl (x_assignL rfl) ?_
            refine wpO_nil ?_
            refine wpF_ret ?_
            repeat (with_reducible first | refine thenF_r ?_ | refine inBlockF_r ?_)
            refine end_t rfl rfl ?_   -- tmp:2
            exact ⟨s75, rfl, by rw [hE]; exact ho75, by rw [hE]; exact H⟩
-- >> hWant_c
-- << hRecall_c
theorem hRecall_c {c : Cx} {g : Heap} {w : World} {F : List Asn} {b : Nat} (B : Bk) (fr : IK .u8) (m : Msg) (H : Holds c g w (B.L b ++ F)) :
    Calls Tryz.prog 47 #[hearV b fr m] w (Ret fun v w' => ∃ so, v = so.v ∧ OutsOk so (B.hRecall fr m).2 ∧ Holds c g w' ([outsA so (B.hRecall fr m).2] ++ ((B.hRecall fr m).1.L b ++ F))) := by
  -- (tarmac/handover.hearing).recall  (function 47; params ['112']; results tmp:2; ntmps 33)
  refine calls_of_wpF Tryz.func47 rfl Tryz.ntmps47 rfl ?_
  refine wpF_seq ?_
  refine wpF_region rfl ?_   -- R0
  refine wpO_eff rfl (e_boxA H rfl fun b1 w H => ?_)
  refine wpO_val rfl (x_assignL rfl) ?_
  refine wpO_nil ?_
  refine wpF_seq ?_
  refine wpF_region rfl ?_   -- R1
  refine wpO_val rfl (x_load1V (hearV b fr m) Tryz.isAgg112 Tryz.sizeOf112 rfl (H.getF 4 rfl) (by kernel_rfl) (by kernel_rfl)) ?_
  refine wpO_eff rfl (e_callF (vs := [hearV b fr m]) Tryz.call90 rfl ((heldOf_c B fr m H).mono (Ret.mono ?_)))   -- of t6
  rintro v7 w ⟨rfl, H'⟩
  replace H := H.re H' rfl
  refine wpO_val rfl (x_moveT rfl) ?_
  refine wpO_val rfl (x_extractA rfl rfl) ?_
  refine wpO_val rfl (x_extractB rfl rfl) ?_
  refine wpO_eff rfl (e_alloc H Tryz.zeroValue64 fun b3 w H => ?_)
  refine wpO_eff0 rfl (e_storeAll (v := ((kget B.helds m.key).getD Held.zero).v) H 5 rfl Tryz.sizeOf64 rfl rfl rfl rfl (by kernel_rfl) fun w H => ?_)
  refine wpO_val rfl (x_assignB rfl) ?_
  refine wpO_nil ?_
  refine wpF_seq ?_
  refine wpF_block ?_   -- block 0
  refine wpF_seq ?_
  refine wpF_region rfl ?_   -- R2
  refine wpO_val rfl (x_moveB rfl) ?_
  refine wpO_val rfl (x_not rfl) ?_
  refine wpO_val rfl (x_moveB rfl) ?_
  refine wpO_split 13 rfl (fun hb13 => ?_) (fun hb13 => ?_)
  ·
    refine wpO_not rfl ?_
    refine wpO_not rfl ?_
    refine wpO_not rfl ?_
    refine wpO_val rfl (x_pickB rfl rfl) ?_
    refine wpO_val rfl (x_assignB rfl) ?_
    refine wpO_nil ?_
    refine wpF_true rfl ?_
    refine wpF_seq ?_
    refine wpF_region rfl ?_   -- R3
    refine wpO_val rfl (x_assignL rfl) ?_
    refine wpO_nil ?_
    refine wpF_ret ?_
    repeat (with_reducible first | refine thenF_r ?_ | refine inBlockF_r ?_)
    refine end_t rfl rfl ?_   -- tmp:2
    have hs : B.heldIs fr m = false := by simpa using hb13
    have hE : B.hRecall fr m = (B, []) := by simp only [Bk.hRecall, hs, if_true]
    exact ⟨Sl.nil, rfl, by rw [hE]; exact OutsOk.nil, by rw [hE]; exact Holds.noOuts (Holds.sel H [0, 1, 2, 3] 6 rfl rfl)⟩
  ·
    have hs : B.heldIs fr m = true := by simpa using hb13
    refine wpO_val rfl (x_fieldAddrN Tryz.underlying64 rfl Tryz.sizeOf4 rfl rfl) ?_
    refine wpO_val rfl (x_load0bB Tryz.isAgg4 rfl (H.getF 5 rfl) rfl) ?_
    refine wpO_val rfl (x_not rfl) ?_
    refine wpO_val rfl (x_pickB rfl rfl) ?_
    refine wpO_val rfl (x_assignB rfl) ?_
    refine wpO_nil ?_
    refine wpF_cond _ rfl (fun hc10 => ?_) (fun hc10 => ?_)
    ·
      refine wpF_seq ?_
      refine wpF_region rfl ?_   -- R3
      refine wpO_val rfl (x_assignL rfl) ?_
      refine wpO_nil ?_
      refine wpF_ret ?_
      repeat (with_reducible first | refine thenF_r ?_ | refine inBlockF_r ?_)
      refine end_t rfl rfl ?_   -- tmp:2
      have hh : ((kget B.helds m.key).getD Held.zero).here = false := by simpa using hc10
      have hE : B.hRecall fr m = (B, []) := by simp only [Bk.hRecall, hs, hh, if_true, if_false, Bool.true_eq_false]
      exact ⟨Sl.nil, rfl, by rw [hE]; exact OutsOk.nil, by rw [hE]; exact Holds.noOuts (Holds.sel H [0, 1, 2, 3] 6 rfl rfl)⟩
    ·
      have hh : ((kget B.helds m.key).getD Held.zero).here = true := by simpa using hc10
      refine wpF_seq ?_
      refine wpF_region rfl ?_   -- R4
      refine wpO_val rfl (x_fieldAddrN Tryz.underlying64 rfl Tryz.sizeOf34 rfl rfl) ?_
      refine wpO_val rfl (x_fieldAddrN Tryz.underlying34 rfl Tryz.sizeOf32 rfl rfl) ?_
      refine wpO_val rfl (x_load0bI Tryz.isAgg32 rfl (H.getF 5 rfl) rfl) ?_
      refine wpO_eff rfl (e_callF (vs := [((((kget B.helds m.key).getD Held.zero).c).st).v]) Tryz.call89 rfl ((free_c _ H).mono (Ret.mono ?_)))   -- of t21
      rintro v22 w ⟨rfl, H'⟩
      replace H := H.re H' rfl
      refine wpO_val rfl (x_not rfl) ?_
      refine wpO_val rfl (x_assignB rfl) ?_
      refine wpO_nil ?_
      refine wpF_cond _ rfl (fun hc18 => ?_) (fun hc18 => ?_)
      ·
        have hE : B.hRecall fr m = (B, [⟨fr, mRefuse m.key (IK.lit .i64 6)⟩]) := by simp only [Bk.hRecall, hs, hh, hc18, if_true, if_false, Bool.true_eq_false]
        refine wpF_seq ?_
        refine wpF_region rfl ?_   -- R5
        refine wpO_val rfl (x_load1V (hearV b fr m) Tryz.isAgg112 Tryz.sizeOf112 rfl (H.getF 4 rfl) (by kernel_rfl) (by kernel_rfl)) ?_
        refine wpO_eff rfl (e_callF (vs := [hearV b fr m, .int .i64 6]) Tryz.call88 rfl ((refuse_c fr m (IK.lit .i64 6) (F := B.L b ++ F) (Holds.sel H [0, 1, 2, 3] 6 rfl rfl)).mono (Ret.mono ?_)))   -- of t24 ('app', 'Go.Value.int', [('app', 'Go.IntKind.i64', []), ('nu
        rintro v25 w ⟨s25, rfl, ho25, H⟩
        refine wpO_val rfl (x_assignL rfl) ?_
        refine wpO_nil ?_
        refine wpF_ret ?_
        repeat (with_reducible first | refine thenF_r ?_ | refine inBlockF_r ?_)
        refine end_t rfl rfl ?_   -- tmp:2
        exact ⟨s25, rfl, by rw [hE]; exact ho25, by rw [hE]; exact H⟩
      ·
        refine wpF_skip ?_
        have hE : B.hRecall fr m = (B.setHeld m.key { ((kget B.helds m.key).getD Held.zero) with here := false }, [⟨m.key.t.car, mReturn m.key ((kget B.helds m.key).getD Held.zero).c⟩]) := by simp only [Bk.hRecall, hs, hh, hc18, if_true, if_false, Bool.true_eq_false, Bool.false_eq_true]
        refine wpF_seq ?_
        refine wpF_region rfl ?_   -- R6
        refine wpO_val rfl (x_fieldAddrN Tryz.underlying112 rfl Tryz.sizeOf37 rfl rfl) ?_
        refine wpO_val rfl (x_load0bP Tryz.isAgg37 rfl (H.getF 4 rfl) rfl) ?_
        refine wpO_val rfl (x_fieldAddrN Tryz.underlying112 rfl Tryz.sizeOf51 rfl rfl) ?_
        refine wpO_val rfl (x_fieldAddrN Tryz.underlying51 rfl Tryz.sizeOf27 rfl rfl) ?_
        refine wpO_val rfl (x_load1V m.key.v Tryz.isAgg27 Tryz.sizeOf27 rfl (H.getF 4 rfl) (by kernel_rfl) (by kernel_rfl)) ?_
        refine wpO_val rfl (x_load1V (((kget B.helds m.key).getD Held.zero).v) Tryz.isAgg64 Tryz.sizeOf64 rfl (H.getF 5 rfl) (by kernel_rfl) (by kernel_rfl)) ?_
        refine wpO_eff rfl (e_callF (vs := [.pointer (some ⟨b, 0, none⟩), m.key.v, ((kget B.helds m.key).getD Held.zero).v]) Tryz.call92 rfl ((giveBack_c B m.key ((kget B.helds m.key).getD Held.zero) (F := F) (Holds.sel H [0, 1, 2, 3] 6 rfl rfl)).mono (Ret.mono ?_)))   -- of t27 t30 t31
        rintro v32 w ⟨s32, rfl, ho32, H⟩
        refine wpO_val rfl (x_assignL rfl) ?_
        refine wpO_nil ?_
        refine wpF_ret ?_
        repeat (with_reducible first | refine thenF_r ?_ | refine inBlockF_r ?_)
        refine end_t rfl rfl ?_   -- tmp:2
        exact ⟨s32, rfl, by rw [hE]; exact ho32, by rw [hE]; exact H⟩
-- >> hRecall_c
-- << hGrant_c
theorem hGrant_c {c : Cx} {g : Heap} {w : World} {F : List Asn} {b : Nat} (B : Bk) (fr : IK .u8) (m : Msg) (H : Holds c g w (B.L b ++ F)) :
    Calls Tryz.prog 43 #[hearV b fr m] w (Ret fun v w' => v = .int .i64 (B.hGrant fr m).2 ∧ Holds c g w' ((B.hGrant fr m).1.L b ++ F)) := by
  -- (tarmac/handover.hearing).grant  (function 43; params ['112']; results tmp:2; ntmps 49)
  refine calls_of_wpF Tryz.func43 rfl Tryz.ntmps43 rfl ?_
  refine wpF_seq ?_
  refine wpF_region rfl ?_   -- R0
  refine wpO_eff rfl (e_boxA H rfl fun b1 w H => ?_)
  refine wpO_val rfl (x_assignI rfl) ?_
  refine wpO_nil ?_
  refine wpF_seq ?_
  refine wpF_region rfl ?_   -- R1
  refine wpO_val rfl (x_load1V (hearV b fr m) Tryz.isAgg112 Tryz.sizeOf112 rfl (H.getF 4 rfl) (by kernel_rfl) (by kernel_rfl)) ?_
  refine wpO_eff rfl (e_callF (vs := [hearV b fr m]) Tryz.call90 rfl ((heldOf_c B fr m H).mono (Ret.mono ?_)))   -- of t7
  rintro v8 w ⟨rfl, H'⟩
  replace H := H.re H' rfl
  refine wpO_val rfl (x_moveT rfl) ?_
  refine wpO_val rfl (x_extractA rfl rfl) ?_
  refine wpO_val rfl (x_extractB rfl rfl) ?_
  refine wpO_eff rfl (e_alloc H Tryz.zeroValue64 fun b3 w H => ?_)
  refine wpO_eff0 rfl (e_storeAll (v := ((kget B.helds m.key).getD Held.zero).v) H 5 rfl Tryz.sizeOf64 rfl rfl rfl rfl (by kernel_rfl) fun w H => ?_)
  refine wpO_val rfl (x_assignB rfl) ?_
  refine wpO_nil ?_
  refine wpF_seq ?_
  refine wpF_seq ?_
  refine wpF_region rfl ?_   -- R2
  refine wpO_val rfl (x_fieldAddrN Tryz.underlying112 rfl Tryz.sizeOf51 rfl rfl) ?_
  refine wpO_val rfl (x_fieldAddrN Tryz.underlying51 rfl Tryz.sizeOf27 rfl rfl) ?_
  refine wpO_val rfl (x_fieldAddrN Tryz.underlying27 rfl Tryz.sizeOf25 rfl rfl) ?_
  refine wpO_val rfl (x_fieldAddrN Tryz.underlying25 rfl Tryz.sizeOf5 rfl rfl) ?_
  refine wpO_val rfl (x_load0bI Tryz.isAgg5 rfl (H.getF 4 rfl) rfl) ?_
  refine wpO_val rfl (x_fieldAddrN Tryz.underlying112 rfl Tryz.sizeOf5 rfl rfl) ?_
  refine wpO_val rfl (x_load0bI Tryz.isAgg5 rfl (H.getF 4 rfl) rfl) ?_
  refine wpO_val rfl (x_cmp rfl rfl rfl rfl) ?_
  refine wpO_val rfl (x_moveB rfl) ?_
  refine wpO_split 19 rfl (fun hb19 => ?_) (fun hb19 => ?_)
  ·
    refine wpO_not rfl ?_
    refine wpO_not rfl ?_
    refine wpO_not rfl ?_
    refine wpO_not rfl ?_
    refine wpO_not rfl ?_
    refine wpO_not rfl ?_
    refine wpO_not rfl ?_
    refine wpO_not rfl ?_
    refine wpO_not rfl ?_
    refine wpO_not rfl ?_
    refine wpO_not rfl ?_
    refine wpO_not rfl ?_
    refine wpO_not rfl ?_
    refine wpO_not rfl ?_
    refine wpO_not rfl ?_
    refine wpO_val rfl (x_pickB rfl rfl) ?_
    refine wpO_nil ?_
    refine wpF_true rfl ?_
    refine wpF_seq ?_
    refine wpF_region rfl ?_   -- R3
    refine wpO_val rfl (x_assignI rfl) ?_
    refine wpO_nil ?_
    refine wpF_ret ?_
    repeat (with_reducible first | refine thenF_r ?_ | refine inBlockF_r ?_)
    refine end_t rfl rfl ?_   -- tmp:2
    have hN : B.hGrantNo fr m = true := by rw [Bk.hGrantNo, hb19, Bool.true_or]
    have hE : B.hGrant fr m = (B, 0) := by simp only [Bk.hGrant, hN, if_true]
    rw [hE]; exact ⟨rfl, H.sel [0, 1, 2, 3] 6 rfl rfl⟩
  ·
    refine wpO_val rfl (x_moveB rfl) ?_
    refine wpO_val rfl (x_moveB rfl) ?_
    refine wpO_split 21 rfl (fun hb21 => ?_) (fun hb21 => ?_)
    ·
      refine wpO_val rfl (x_fieldAddrN Tryz.underlying64 rfl Tryz.sizeOf4 rfl rfl) ?_
      refine wpO_val rfl (x_load0bB Tryz.isAgg4 rfl (H.getF 5 rfl) rfl) ?_
      refine wpO_val rfl (x_moveB rfl) ?_
      refine wpO_split 24 rfl (fun hb24 => ?_) (fun hb24 => ?_)
      ·
        refine wpO_not rfl ?_
        refine wpO_not rfl ?_
        refine wpO_not rfl ?_
        refine wpO_not rfl ?_
        refine wpO_not rfl ?_
        refine wpO_not rfl ?_
        refine wpO_not rfl ?_
        refine wpO_not rfl ?_
        refine wpO_val rfl (x_pickB rfl rfl) ?_
        refine wpO_val rfl (x_pickB rfl rfl) ?_
        refine wpO_val rfl (x_pickB rfl rfl) ?_
        refine wpO_nil ?_
        refine wpF_true rfl ?_
        refine wpF_seq ?_
        refine wpF_region rfl ?_   -- R3
        refine wpO_val rfl (x_assignI rfl) ?_
        refine wpO_nil ?_
        refine wpF_ret ?_
        repeat (with_reducible first | refine thenF_r ?_ | refine inBlockF_r ?_)
        refine end_t rfl rfl ?_   -- tmp:2
        have hN : B.hGrantNo fr m = true := by rw [Bk.hGrantNo, hb19, hb21, hb24]; simp
        have hE : B.hGrant fr m = (B, 0) := by simp only [Bk.hGrant, hN, if_true]
        rw [hE]; exact ⟨rfl, H.sel [0, 1, 2, 3] 6 rfl rfl⟩
      ·
        refine wpO_val rfl (x_fieldAddrN Tryz.underlying64 rfl Tryz.sizeOf34 rfl rfl) ?_
        refine wpO_val rfl (x_fieldAddrN Tryz.underlying34 rfl Tryz.sizeOf29 rfl rfl) ?_
        refine wpO_val rfl (x_load0bI Tryz.isAgg29 rfl (H.getF 5 rfl) rfl) ?_
        refine wpO_val rfl (x_fieldAddrN Tryz.underlying112 rfl Tryz.sizeOf51 rfl rfl) ?_
        refine wpO_val rfl (x_fieldAddrN Tryz.underlying51 rfl Tryz.sizeOf34 rfl rfl) ?_
        refine wpO_val rfl (x_fieldAddrN Tryz.underlying34 rfl Tryz.sizeOf29 rfl rfl) ?_
        refine wpO_val rfl (x_load0bI Tryz.isAgg29 rfl (H.getF 4 rfl) rfl) ?_
        refine wpO_val rfl (x_cmp rfl rfl rfl rfl) ?_
        refine wpO_val rfl (x_pickB rfl rfl) ?_
        refine wpO_val rfl (x_pickB rfl rfl) ?_
        refine wpO_val rfl (x_pickB rfl rfl) ?_
        refine wpO_nil ?_
        refine wpF_cond _ rfl (fun hc35 => ?_) (fun hc35 => ?_)
        ·
          refine wpF_seq ?_
          refine wpF_region rfl ?_   -- R3
          refine wpO_val rfl (x_assignI rfl) ?_
          refine wpO_nil ?_
          refine wpF_ret ?_
          repeat (with_reducible first | refine thenF_r ?_ | refine inBlockF_r ?_)
          refine end_t rfl rfl ?_   -- tmp:2
          have hN : B.hGrantNo fr m = true := by rw [Bk.hGrantNo, hb19, hb21, hb24, hc35]; simp
          have hE : B.hGrant fr m = (B, 0) := by simp only [Bk.hGrant, hN, if_true]
          rw [hE]; exact ⟨rfl, H.sel [0, 1, 2, 3] 6 rfl rfl⟩
        ·
          have hN : B.hGrantNo fr m = false := by rw [Bk.hGrantNo, hb19, hb21, hb24, hc35]; rfl
          have hE : B.hGrant fr m = (B.setHeld m.key { Held.zero with c := m.c, here := true }, if B.setHeldE m.key = 3 then 3 else 0) := by simp only [Bk.hGrant, hN, if_false, Bool.false_eq_true]
          rw [hE]
          refine wpF_skip ?_
          refine wpF_seq ?_
          refine wpF_seq ?_
          refine wpF_region rfl ?_   -- R4
          refine wpO_val rfl (x_fieldAddrN Tryz.underlying112 rfl Tryz.sizeOf37 rfl rfl) ?_
          refine wpO_val rfl (x_load0bP Tryz.isAgg37 rfl (H.getF 4 rfl) rfl) ?_
          refine wpO_val rfl (x_fieldAddrN Tryz.underlying112 rfl Tryz.sizeOf51 rfl rfl) ?_
          refine wpO_val rfl (x_fieldAddrN Tryz.underlying51 rfl Tryz.sizeOf27 rfl rfl) ?_
          refine wpO_val rfl (x_load1V m.key.v Tryz.isAgg27 Tryz.sizeOf27 rfl (H.getF 4 rfl) (by kernel_rfl) (by kernel_rfl)) ?_
          refine wpO_val rfl (x_fieldAddrN Tryz.underlying112 rfl Tryz.sizeOf51 rfl rfl) ?_
          refine wpO_val rfl (x_fieldAddrN Tryz.underlying51 rfl Tryz.sizeOf34 rfl rfl) ?_
          refine wpO_val rfl (x_load1V m.c.v Tryz.isAgg34 Tryz.sizeOf34 rfl (H.getF 4 rfl) (by kernel_rfl) (by kernel_rfl)) ?_
          refine wpO_val rfl (x_buildSt stHeld [m.c.v, .bool true] rfl (cs := (({ Held.zero with c := m.c, here := true } : Held).v).cells) (by kernel_rfl)) ?_
          refine wpO_eff rfl (e_callF (vs := [.pointer (some ⟨b, 0, none⟩), m.key.v, ({ Held.zero with c := m.c, here := true } : Held).v]) Tryz.call18 rfl ((bSetHeld_c B m.key ({ Held.zero with c := m.c, here := true } : Held) H).mono (Ret.mono ?_)))   -- of t37 t40 t44
          rintro v45 w ⟨rfl, H'⟩
          replace H : Holds c g w (((B.setHeld m.key ({ Held.zero with c := m.c, here := true } : Held)).L b ++ [_, _]) ++ F) := H'
          refine wpO_val rfl (x_assignI rfl) ?_
          refine wpO_nil ?_
          refine wpF_seq ?_
          refine wpF_region rfl ?_   -- R5
          refine wpO_val rfl (x_moveI rfl) ?_
          refine wpO_val rfl (x_cmp rfl rfl rfl rfl) ?_
          refine wpO_nil ?_
          refine wpF_cond _ rfl (fun hc47 => ?_) (fun hc47 => ?_)
          ·
            refine wpF_seq ?_
            refine wpF_region rfl ?_   -- R6
            refine wpO_val rfl (x_moveI rfl) ?_
            refine wpO_val rfl (x_assignI rfl) ?_
            refine wpO_nil ?_
            refine wpF_ret ?_
            repeat (with_reducible first | refine thenF_r ?_ | refine inBlockF_r ?_)
            refine end_t rfl rfl ?_   -- tmp:2
            have h3 : B.setHeldE m.key = 3 := by simpa using hc47
            exact ⟨by simp only [h3, if_true]; rw [← h3]; rfl, H.sel [0, 1, 2, 3] 6 rfl rfl⟩
          ·
            refine wpF_skip ?_
            refine wpF_seq ?_
            refine wpF_region rfl ?_   -- R7
            refine wpO_val rfl (x_assignI rfl) ?_
            refine wpO_nil ?_
            refine wpF_ret ?_
            repeat (with_reducible first | refine thenF_r ?_ | refine inBlockF_r ?_)
            refine end_t rfl rfl ?_   -- tmp:2
            have h3 : ¬ B.setHeldE m.key = 3 := by simpa using hc47
            exact ⟨by simp only [h3, if_false]; rfl, H.sel [0, 1, 2, 3] 6 rfl rfl⟩
    ·
      have hN : B.hGrantNo fr m = false := by rw [Bk.hGrantNo, hb19, hb21]; rfl
      have hE : B.hGrant fr m = (B.setHeld m.key { Held.zero with c := m.c, here := true }, if B.setHeldE m.key = 3 then 3 else 0) := by simp only [Bk.hGrant, hN, if_false, Bool.false_eq_true]
      rw [hE]
      refine wpO_not rfl ?_
      refine wpO_not rfl ?_
      refine wpO_not rfl ?_
      refine wpO_not rfl ?_
      refine wpO_not rfl ?_
      refine wpO_not rfl ?_
      refine wpO_not rfl ?_
      refine wpO_not rfl ?_
      refine wpO_not rfl ?_
      refine wpO_not rfl ?_
      refine wpO_not rfl ?_
      refine wpO_not rfl ?_
      refine wpO_val rfl (x_pickB rfl rfl) ?_
      refine wpO_val rfl (x_pickB rfl rfl) ?_
      refine wpO_nil ?_
      refine wpF_false rfl ?_
      refine wpF_skip ?_
      refine wpF_seq ?_
      refine wpF_seq ?_
      refine wpF_region rfl ?_   -- R4
      refine wpO_val rfl (x_fieldAddrN Tryz.underlying112 rfl Tryz.sizeOf37 rfl rfl) ?_
      refine wpO_val rfl (x_load0bP Tryz.isAgg37 rfl (H.getF 4 rfl) rfl) ?_
      refine wpO_val rfl (x_fieldAddrN Tryz.underlying112 rfl Tryz.sizeOf51 rfl rfl) ?_
      refine wpO_val rfl (x_fieldAddrN Tryz.underlying51 rfl Tryz.sizeOf27 rfl rfl) ?_
      refine wpO_val rfl (x_load1V m.key.v Tryz.isAgg27 Tryz.sizeOf27 rfl (H.getF 4 rfl) (by kernel_rfl) (by kernel_rfl)) ?_
      refine wpO_val rfl (x_fieldAddrN Tryz.underlying112 rfl Tryz.sizeOf51 rfl rfl) ?_
      refine wpO_val rfl (x_fieldAddrN Tryz.underlying51 rfl Tryz.sizeOf34 rfl rfl) ?_
      refine wpO_val rfl (x_load1V m.c.v Tryz.isAgg34 Tryz.sizeOf34 rfl (H.getF 4 rfl) (by kernel_rfl) (by kernel_rfl)) ?_
      refine wpO_val rfl (x_buildSt stHeld [m.c.v, .bool true] rfl (cs := (({ Held.zero with c := m.c, here := true } : Held).v).cells) (by kernel_rfl)) ?_
      refine wpO_eff rfl (e_callF (vs := [.pointer (some ⟨b, 0, none⟩), m.key.v, ({ Held.zero with c := m.c, here := true } : Held).v]) Tryz.call18 rfl ((bSetHeld_c B m.key ({ Held.zero with c := m.c, here := true } : Held) H).mono (Ret.mono ?_)))   -- of t37 t40 t44
      rintro v45 w ⟨rfl, H'⟩
      replace H : Holds c g w (((B.setHeld m.key ({ Held.zero with c := m.c, here := true } : Held)).L b ++ [_, _]) ++ F) := H'
      refine wpO_val rfl (x_assignI rfl) ?_
      refine wpO_nil ?_
      refine wpF_seq ?_
      refine wpF_region rfl ?_   -- R5
      refine wpO_val rfl (x_moveI rfl) ?_
      refine wpO_val rfl (x_cmp rfl rfl rfl rfl) ?_
      refine wpO_nil ?_
      refine wpF_cond _ rfl (fun hc47 => ?_) (fun hc47 => ?_)
      ·
        refine wpF_seq ?_
        refine wpF_region rfl ?_   -- R6
        refine wpO_val rfl (x_moveI rfl) ?_
        refine wpO_val rfl (x_assignI rfl) ?_
        refine wpO_nil ?_
        refine wpF_ret ?_
        repeat (with_reducible first | refine thenF_r ?_ | refine inBlockF_r ?_)
        refine end_t rfl rfl ?_   -- tmp:2
        have h3 : B.setHeldE m.key = 3 := by simpa using hc47
        exact ⟨by simp only [h3, if_true]; rw [← h3]; rfl, H.sel [0, 1, 2, 3] 6 rfl rfl⟩
      ·
        refine wpF_skip ?_
        refine wpF_seq ?_
        refine wpF_region rfl ?_   -- R7
        refine wpO_val rfl (x_assignI rfl) ?_
        refine wpO_nil ?_
        refine wpF_ret ?_
        repeat (with_reducible first | refine thenF_r ?_ | refine inBlockF_r ?_)
        refine end_t rfl rfl ?_   -- tmp:2
        have h3 : ¬ B.setHeldE m.key = 3 := by simpa using hc47
        exact ⟨by simp only [h3, if_false]; rfl, H.sel [0, 1, 2, 3] 6 rfl rfl⟩
-- >> hGrant_c
-- << hRefuse_c
theorem hRefuse_c {c : Cx} {g : Heap} {w : World} {F : List Asn} {b : Nat} (B : Bk) (fr : IK .u8) (m : Msg) (H : Holds c g w (B.L b ++ F)) :
    Calls Tryz.prog 45 #[hearV b fr m] w (Ret fun v w' => v = .tuple #[] ∧ Holds c g w' ((B.hRefuse fr m).L b ++ F)) := by
  -- (tarmac/handover.hearing).refused  (function 45; params ['112']; results ; ntmps 34)
  refine calls_of_wpF Tryz.func45 rfl Tryz.ntmps45 rfl ?_
  refine wpF_seq ?_
  refine wpF_region rfl ?_   -- R0
  refine wpO_eff rfl (e_boxA H rfl fun b1 w H => ?_)
  refine wpO_nil ?_
  refine wpF_seq ?_
  refine wpF_seq ?_
  refine wpF_region rfl ?_   -- R1
  refine wpO_val rfl (x_load1V (hearV b fr m) Tryz.isAgg112 Tryz.sizeOf112 rfl (H.getF 4 rfl) (by kernel_rfl) (by kernel_rfl)) ?_
  refine wpO_eff rfl (e_callF (vs := [hearV b fr m]) Tryz.call90 rfl ((heldOf_c B fr m H).mono (Ret.mono ?_)))   -- of t7
  rintro v8 w ⟨rfl, H'⟩
  replace H := H.re H' rfl
  refine wpO_val rfl (x_moveT rfl) ?_
  refine wpO_val rfl (x_extractA rfl rfl) ?_
  refine wpO_val rfl (x_extractB rfl rfl) ?_
  refine wpO_eff rfl (e_alloc H Tryz.zeroValue64 fun b2 w H => ?_)
  refine wpO_eff0 rfl (e_storeAll (v := ((kget B.helds m.key).getD Held.zero).v) H 5 rfl Tryz.sizeOf64 rfl rfl rfl rfl (by kernel_rfl) fun w H => ?_)
  refine wpO_val rfl (x_assignB rfl) ?_
  refine wpO_nil ?_
  refine wpF_seq ?_
  refine wpF_region rfl ?_   -- R2
  refine wpO_val rfl (x_moveB rfl) ?_
  refine wpO_nil ?_
  refine wpF_cond _ rfl (fun hc11 => ?_) (fun hc11 => ?_)
  ·
    have hE1 : B.hRefuseH fr m = B.setHeld m.key { ((kget B.helds m.key).getD Held.zero) with wanted := false } := by simp only [Bk.hRefuseH, hc11, if_true]
    unfold Bk.hRefuse
    rw [hE1]
    refine wpF_seq ?_
    refine wpF_region rfl ?_   -- R3
    refine wpO_val rfl (x_fieldAddrN Tryz.underlying64 rfl Tryz.sizeOf4 rfl rfl) ?_
    refine wpO_eff0 rfl (e_store H 5 rfl Tryz.sizeOf4 rfl rfl rfl rfl rfl fun w H => ?_)
    refine wpO_nil ?_
    refine wpF_region rfl ?_   -- R4
    refine wpO_val rfl (x_fieldAddrN Tryz.underlying112 rfl Tryz.sizeOf37 rfl rfl) ?_
    refine wpO_val rfl (x_load0bP Tryz.isAgg37 rfl (H.getF 4 rfl) rfl) ?_
    refine wpO_val rfl (x_fieldAddrN Tryz.underlying112 rfl Tryz.sizeOf51 rfl rfl) ?_
    refine wpO_val rfl (x_fieldAddrN Tryz.underlying51 rfl Tryz.sizeOf27 rfl rfl) ?_
    refine wpO_val rfl (x_load1V m.key.v Tryz.isAgg27 Tryz.sizeOf27 rfl (H.getF 4 rfl) (by kernel_rfl) (by kernel_rfl)) ?_
    refine wpO_val rfl (x_load1V (({ ((kget B.helds m.key).getD Held.zero) with wanted := false } : Held).v) Tryz.isAgg64 Tryz.sizeOf64 rfl (H.getF 5 rfl) (by kernel_rfl) (by kernel_rfl)) ?_
    refine wpO_eff rfl (e_callF (vs := [.pointer (some ⟨b, 0, none⟩), m.key.v, ({ ((kget B.helds m.key).getD Held.zero) with wanted := false } : Held).v]) Tryz.call18 rfl ((bSetHeld_c B m.key ({ ((kget B.helds m.key).getD Held.zero) with wanted := false } : Held) H).mono (Ret.mono ?_)))   -- of t14 t17 t18
    rintro v19 w ⟨rfl, H'⟩
    replace H : Holds c g w (((B.setHeld m.key ({ ((kget B.helds m.key).getD Held.zero) with wanted := false } : Held)).L b ++ [_, _]) ++ F) := H'
    refine wpO_nil ?_
    refine wpF_seq ?_
    refine wpF_region rfl ?_   -- R5
    refine wpO_val rfl (x_load1V (hearV b fr m) Tryz.isAgg112 Tryz.sizeOf112 rfl (H.getF 4 rfl) (by kernel_rfl) (by kernel_rfl)) ?_
    refine wpO_eff rfl (e_callF (vs := [hearV b fr m]) Tryz.call91 rfl ((awayOf_c (B.setHeld m.key ({ ((kget B.helds m.key).getD Held.zero) with wanted := false } : Held)) fr m H).mono (Ret.mono ?_)))   -- of t21
    rintro v22 w ⟨rfl, H'⟩
    replace H := H.re H' rfl
    refine wpO_val rfl (x_moveT rfl) ?_
    refine wpO_val rfl (x_extractA rfl rfl) ?_
    refine wpO_val rfl (x_extractB rfl rfl) ?_
    refine wpO_eff rfl (e_alloc H Tryz.zeroValue43 fun b4 w H => ?_)
    refine wpO_eff0 rfl (e_storeAll (v := ((kget (B.setHeld m.key ({ ((kget B.helds m.key).getD Held.zero) with wanted := false } : Held)).owns m.key).getD Own.zero).v) H 6 rfl Tryz.sizeOf43 rfl rfl rfl rfl (by kernel_rfl) fun w H => ?_)
    refine wpO_val rfl (x_assignB rfl) ?_
    refine wpO_nil ?_
    refine wpF_seq ?_
    refine wpF_region rfl ?_   -- R6
    refine wpO_val rfl (x_moveB rfl) ?_
    refine wpO_nil ?_
    refine wpF_cond _ rfl (fun hc25 => ?_) (fun hc25 => ?_)
    ·
      refine wpF_seq ?_
      refine wpF_region rfl ?_   -- R7
      refine wpO_val rfl (x_fieldAddrN Tryz.underlying43 rfl Tryz.sizeOf4 rfl rfl) ?_
      refine wpO_eff0 rfl (e_store H 6 rfl Tryz.sizeOf4 rfl rfl rfl rfl rfl fun w H => ?_)
      refine wpO_nil ?_
      refine wpF_region rfl ?_   -- R8
      refine wpO_val rfl (x_fieldAddrN Tryz.underlying112 rfl Tryz.sizeOf37 rfl rfl) ?_
      refine wpO_val rfl (x_load0bP Tryz.isAgg37 rfl (H.getF 4 rfl) rfl) ?_
      refine wpO_val rfl (x_fieldAddrN Tryz.underlying112 rfl Tryz.sizeOf51 rfl rfl) ?_
      refine wpO_val rfl (x_fieldAddrN Tryz.underlying51 rfl Tryz.sizeOf27 rfl rfl) ?_
      refine wpO_val rfl (x_load1V m.key.v Tryz.isAgg27 Tryz.sizeOf27 rfl (H.getF 4 rfl) (by kernel_rfl) (by kernel_rfl)) ?_
      refine wpO_val rfl (x_load1V (({ ((kget (B.setHeld m.key ({ ((kget B.helds m.key).getD Held.zero) with wanted := false } : Held)).owns m.key).getD Own.zero) with asked := false } : Own).v) Tryz.isAgg43 Tryz.sizeOf43 rfl (H.getF 6 rfl) (by kernel_rfl) (by kernel_rfl)) ?_
      refine wpO_eff rfl (e_callF (vs := [.pointer (some ⟨b, 0, none⟩), m.key.v, ({ ((kget (B.setHeld m.key ({ ((kget B.helds m.key).getD Held.zero) with wanted := false } : Held)).owns m.key).getD Own.zero) with asked := false } : Own).v]) Tryz.call17 rfl ((bSetOwn_c (B.setHeld m.key ({ ((kget B.helds m.key).getD Held.zero) with wanted := false } : Held)) m.key ({ ((kget (B.setHeld m.key ({ ((kget B.helds m.key).getD Held.zero) with wanted := false } : Held)).owns m.key).getD Own.zero) with asked := false } : Own) H).mono (Ret.mono ?_)))   -- of t28 t31 t32
      rintro v33 w ⟨rfl, H'⟩
      replace H : Holds c g w ((((B.setHeld m.key ({ ((kget B.helds m.key).getD Held.zero) with wanted := false } : Held)).setOwn m.key ({ ((kget (B.setHeld m.key ({ ((kget B.helds m.key).getD Held.zero) with wanted := false } : Held)).owns m.key).getD Own.zero) with asked := false } : Own)).L b ++ [_, _, _]) ++ F) := H'
      refine wpO_nil ?_
      repeat (with_reducible first | refine thenF_x ?_ | refine inBlockF_x ?_ | refine inBlockF_n ?_)
      refine endn_0 rfl ?_   -- 
      exact ⟨rfl, by rw [Bk.hRefuseO, if_pos hc25]; exact H.sel [0, 1, 2, 3] 7 rfl rfl⟩
    ·
      refine wpF_skip ?_
      repeat (with_reducible first | refine thenF_x ?_ | refine inBlockF_x ?_ | refine inBlockF_n ?_)
      refine endn_0 rfl ?_   -- 
      exact ⟨rfl, by rw [Bk.hRefuseO, hc25, if_neg (by simp)]; exact H.sel [0, 1, 2, 3] 7 rfl rfl⟩
  ·
    have hE1 : B.hRefuseH fr m = B := by simp only [Bk.hRefuseH, hc11, if_false, Bool.false_eq_true]
    unfold Bk.hRefuse
    rw [hE1]
    refine wpF_skip ?_
    refine wpF_seq ?_
    refine wpF_region rfl ?_   -- R5
    refine wpO_val rfl (x_load1V (hearV b fr m) Tryz.isAgg112 Tryz.sizeOf112 rfl (H.getF 4 rfl) (by kernel_rfl) (by kernel_rfl)) ?_
    refine wpO_eff rfl (e_callF (vs := [hearV b fr m]) Tryz.call91 rfl ((awayOf_c B fr m H).mono (Ret.mono ?_)))   -- of t21
    rintro v22 w ⟨rfl, H'⟩
    replace H := H.re H' rfl
    refine wpO_val rfl (x_moveT rfl) ?_
    refine wpO_val rfl (x_extractA rfl rfl) ?_
    refine wpO_val rfl (x_extractB rfl rfl) ?_
    refine wpO_eff rfl (e_alloc H Tryz.zeroValue43 fun b4 w H => ?_)
    refine wpO_eff0 rfl (e_storeAll (v := ((kget B.owns m.key).getD Own.zero).v) H 6 rfl Tryz.sizeOf43 rfl rfl rfl rfl (by kernel_rfl) fun w H => ?_)
    refine wpO_val rfl (x_assignB rfl) ?_
    refine wpO_nil ?_
    refine wpF_seq ?_
    refine wpF_region rfl ?_   -- R6
    refine wpO_val rfl (x_moveB rfl) ?_
    refine wpO_nil ?_
    refine wpF_cond _ rfl (fun hc25 => ?_) (fun hc25 => ?_)
    ·
      refine wpF_seq ?_
      refine wpF_region rfl ?_   -- R7
      refine wpO_val rfl (x_fieldAddrN Tryz.underlying43 rfl Tryz.sizeOf4 rfl rfl) ?_
      refine wpO_eff0 rfl (e_store H 6 rfl Tryz.sizeOf4 rfl rfl rfl rfl rfl fun w H => ?_)
      refine wpO_nil ?_
      refine wpF_region rfl ?_   -- R8
      refine wpO_val rfl (x_fieldAddrN Tryz.underlying112 rfl Tryz.sizeOf37 rfl rfl) ?_
      refine wpO_val rfl (x_load0bP Tryz.isAgg37 rfl (H.getF 4 rfl) rfl) ?_
      refine wpO_val rfl (x_fieldAddrN Tryz.underlying112 rfl Tryz.sizeOf51 rfl rfl) ?_
      refine wpO_val rfl (x_fieldAddrN Tryz.underlying51 rfl Tryz.sizeOf27 rfl rfl) ?_
      refine wpO_val rfl (x_load1V m.key.v Tryz.isAgg27 Tryz.sizeOf27 rfl (H.getF 4 rfl) (by kernel_rfl) (by kernel_rfl)) ?_
      refine wpO_val rfl (x_load1V (({ ((kget B.owns m.key).getD Own.zero) with asked := false } : Own).v) Tryz.isAgg43 Tryz.sizeOf43 rfl (H.getF 6 rfl) (by kernel_rfl) (by kernel_rfl)) ?_
      refine wpO_eff rfl (e_callF (vs := [.pointer (some ⟨b, 0, none⟩), m.key.v, ({ ((kget B.owns m.key).getD Own.zero) with asked := false } : Own).v]) Tryz.call17 rfl ((bSetOwn_c B m.key ({ ((kget B.owns m.key).getD Own.zero) with asked := false } : Own) H).mono (Ret.mono ?_)))   -- of t28 t31 t32
      rintro v33 w ⟨rfl, H'⟩
      replace H : Holds c g w (((B.setOwn m.key ({ ((kget B.owns m.key).getD Own.zero) with asked := false } : Own)).L b ++ [_, _, _]) ++ F) := H'
      refine wpO_nil ?_
      repeat (with_reducible first | refine thenF_x ?_ | refine inBlockF_x ?_ | refine inBlockF_n ?_)
      refine endn_0 rfl ?_   -- 
      exact ⟨rfl, by rw [Bk.hRefuseO, if_pos hc25]; exact H.sel [0, 1, 2, 3] 7 rfl rfl⟩
    ·
      refine wpF_skip ?_
      repeat (with_reducible first | refine thenF_x ?_ | refine inBlockF_x ?_ | refine inBlockF_n ?_)
      refine endn_0 rfl ?_   -- 
      exact ⟨rfl, by rw [Bk.hRefuseO, hc25, if_neg (by simp)]; exact H.sel [0, 1, 2, 3] 7 rfl rfl⟩
-- >> hRefuse_c
-- << hReturn_c
theorem hReturn_c {c : Cx} {g : Heap} {w : World} {F : List Asn} {b : Nat} (B : Bk) (fr : IK .u8) (m : Msg) (H : Holds c g w (B.L b ++ F)) :
    Calls Tryz.prog 49 #[hearV b fr m] w (Ret fun v w' => v = .tuple #[] ∧ Holds c g w' ((B.hReturn fr m).L b ++ F)) := by
  -- (tarmac/handover.hearing).returned  (function 49; params ['112']; results ; ntmps 29)
  refine calls_of_wpF Tryz.func49 rfl Tryz.ntmps49 rfl ?_
  refine wpF_seq ?_
  refine wpF_region rfl ?_   -- R0
  refine wpO_eff rfl (e_boxA H rfl fun b1 w H => ?_)
  refine wpO_nil ?_
  refine wpF_seq ?_
  refine wpF_region rfl ?_   -- R1
  refine wpO_val rfl (x_load1V (hearV b fr m) Tryz.isAgg112 Tryz.sizeOf112 rfl (H.getF 4 rfl) (by kernel_rfl) (by kernel_rfl)) ?_
  refine wpO_eff rfl (e_callF (vs := [hearV b fr m]) Tryz.call91 rfl ((awayOf_c B fr m H).mono (Ret.mono ?_)))   -- of t5
  rintro v6 w ⟨rfl, H'⟩
  replace H := H.re H' rfl
  refine wpO_val rfl (x_moveT rfl) ?_
  refine wpO_val rfl (x_extractA rfl rfl) ?_
  refine wpO_val rfl (x_extractB rfl rfl) ?_
  refine wpO_eff rfl (e_alloc H Tryz.zeroValue43 fun b2 w H => ?_)
  refine wpO_eff0 rfl (e_storeAll (v := ((kget B.owns m.key).getD Own.zero).v) H 5 rfl Tryz.sizeOf43 rfl rfl rfl rfl (by kernel_rfl) fun w H => ?_)
  refine wpO_val rfl (x_assignB rfl) ?_
  refine wpO_nil ?_
  refine wpF_seq ?_
  refine wpF_region rfl ?_   -- R2
  refine wpO_val rfl (x_moveB rfl) ?_
  refine wpO_val rfl (x_moveB rfl) ?_
  refine wpO_split 10 rfl (fun hb10 => ?_) (fun hb10 => ?_)
  ·
    refine wpO_val rfl (x_fieldAddrN Tryz.underlying43 rfl Tryz.sizeOf34 rfl rfl) ?_
    refine wpO_val rfl (x_fieldAddrN Tryz.underlying34 rfl Tryz.sizeOf29 rfl rfl) ?_
    refine wpO_val rfl (x_load0bI Tryz.isAgg29 rfl (H.getF 5 rfl) rfl) ?_
    refine wpO_val rfl (x_fieldAddrN Tryz.underlying112 rfl Tryz.sizeOf51 rfl rfl) ?_
    refine wpO_val rfl (x_fieldAddrN Tryz.underlying51 rfl Tryz.sizeOf34 rfl rfl) ?_
    refine wpO_val rfl (x_fieldAddrN Tryz.underlying34 rfl Tryz.sizeOf29 rfl rfl) ?_
    refine wpO_val rfl (x_load0bI Tryz.isAgg29 rfl (H.getF 4 rfl) rfl) ?_
    refine wpO_val rfl (x_cmp rfl rfl rfl rfl) ?_
    refine wpO_val rfl (x_pickB rfl rfl) ?_
    refine wpO_nil ?_
    refine wpF_cond _ rfl (fun hc19 => ?_) (fun hc19 => ?_)
    ·
      refine wpF_seq ?_
      refine wpF_region rfl ?_   -- R3
      refine wpO_val rfl (x_fieldAddrN Tryz.underlying43 rfl Tryz.sizeOf4 rfl rfl) ?_
      refine wpO_eff0 rfl (e_store H 5 rfl Tryz.sizeOf4 rfl rfl rfl rfl rfl fun w H => ?_)
      refine wpO_val rfl (x_fieldAddrN Tryz.underlying43 rfl Tryz.sizeOf4 rfl rfl) ?_
      refine wpO_eff0 rfl (e_store H 5 rfl Tryz.sizeOf4 rfl rfl rfl rfl rfl fun w H => ?_)
      refine wpO_nil ?_
      refine wpF_region rfl ?_   -- R4
      refine wpO_val rfl (x_fieldAddrN Tryz.underlying112 rfl Tryz.sizeOf37 rfl rfl) ?_
      refine wpO_val rfl (x_load0bP Tryz.isAgg37 rfl (H.getF 4 rfl) rfl) ?_
      refine wpO_val rfl (x_fieldAddrN Tryz.underlying112 rfl Tryz.sizeOf51 rfl rfl) ?_
      refine wpO_val rfl (x_fieldAddrN Tryz.underlying51 rfl Tryz.sizeOf27 rfl rfl) ?_
      refine wpO_val rfl (x_load1V m.key.v Tryz.isAgg27 Tryz.sizeOf27 rfl (H.getF 4 rfl) (by kernel_rfl) (by kernel_rfl)) ?_
      refine wpO_val rfl (x_load1V (({ ((kget B.owns m.key).getD Own.zero) with away := false, asked := false } : Own).v) Tryz.isAgg43 Tryz.sizeOf43 rfl (H.getF 5 rfl) (by kernel_rfl) (by kernel_rfl)) ?_
      refine wpO_eff rfl (e_callF (vs := [.pointer (some ⟨b, 0, none⟩), m.key.v, ({ ((kget B.owns m.key).getD Own.zero) with away := false, asked := false } : Own).v]) Tryz.call17 rfl ((bSetOwn_c B m.key ({ ((kget B.owns m.key).getD Own.zero) with away := false, asked := false } : Own) H).mono (Ret.mono ?_)))   -- of t23 t26 t27
      rintro v28 w ⟨rfl, H'⟩
      replace H : Holds c g w (((B.setOwn m.key ({ ((kget B.owns m.key).getD Own.zero) with away := false, asked := false } : Own)).L b ++ [_, _]) ++ F) := H'
      refine wpO_nil ?_
      repeat (with_reducible first | refine thenF_x ?_ | refine inBlockF_x ?_ | refine inBlockF_n ?_)
      refine endn_0 rfl ?_   -- 
      exact ⟨rfl, by rw [Bk.hReturn, hb10, if_pos (by rw [hc19]; rfl)]; exact H.sel [0, 1, 2, 3] 6 rfl rfl⟩
    ·
      refine wpF_skip ?_
      repeat (with_reducible first | refine thenF_x ?_ | refine inBlockF_x ?_ | refine inBlockF_n ?_)
      refine endn_0 rfl ?_   -- 
      exact ⟨rfl, by rw [Bk.hReturn, hc19, if_neg (by simp)]; exact H.sel [0, 1, 2, 3] 6 rfl rfl⟩
  ·
    refine wpO_not rfl ?_
    refine wpO_not rfl ?_
    refine wpO_not rfl ?_
    refine wpO_not rfl ?_
    refine wpO_not rfl ?_
    refine wpO_not rfl ?_
    refine wpO_not rfl ?_
    refine wpO_not rfl ?_
    refine wpO_val rfl (x_pickB rfl rfl) ?_
    refine wpO_nil ?_
    refine wpF_false rfl ?_
    refine wpF_skip ?_
    repeat (with_reducible first | refine thenF_x ?_ | refine inBlockF_x ?_ | refine inBlockF_n ?_)
    refine endn_0 rfl ?_   -- 
    exact ⟨rfl, by rw [Bk.hReturn, hb10, if_neg (by simp)]; exact H.sel [0, 1, 2, 3] 6 rfl rfl⟩
-- >> hReturn_c
end Go.Proofs.YtfoginganpgmcaaGreat
