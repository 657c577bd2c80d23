/- ticket.Make: documents. -/
import Derived.Test.YtfoginganpgmcaaGreatTick
import Derived.Test.YtfoginganpgmcaaGreatClone
import Derived.Test.YtfoginganpgmcaaGreatShare
import Derived.Test.YtfoginganpgmcaaGreatBook1
set_option linter.unusedSimpArgs false
set_option linter.unusedVariables false
namespace Go.Proofs.YtfoginganpgmcaaGreat
open Go Go.Tw
set_option maxRecDepth 100000

def SaleP.zero : SaleP := ⟨[], Sl.nil, IK.of .i64 0, Sl.nil, IK.of .i64 0⟩
def Ticket.zero : Ticket := ⟨IK.of .u8 0, IK.of .u64 0⟩
def DocP.zero : DocP := ⟨Ticket.zero, SaleP.zero, Sl.nil, Ticket.zero, Ticket.zero, IK.of .i64 0, IK.of .i64 0, IK.of .i64 0, IK.of .i64 0, IK.of .i64 0⟩
theorem stDoc : StLaw Tryz.prog 62 [(0, 2), (2, 5), (7, 1), (8, 2), (10, 2), (12, 1), (13, 1), (14, 1), (15, 1), (16, 1)] DocP.zero.v.cells := fun parts => by kernel_rfl
theorem isuint32 : El Tryz.prog 29 1 4 (.int .u32 0) := ⟨⟨Tryz.t29, by kernel_rfl, rfl, rfl, rfl⟩, rfl, by decide⟩

/-- What ticket.Make says. -/
def makeErr (t : Ticket) (s : SaleP) (legs : List Leg) (taxes : List Tax) (n : Int) : Int :=
  if saleErr s legs taxes n = 1 ∨ t.car.n ≥ n ∨ t.ser.n < 1 ∨ t.ser.n > 9999999999 then 1 else saleErr s legs taxes n
theorem saleOk {s : SaleP} {legs : List Leg} {taxes : List Tax} {n : Int} (h : saleErr s legs taxes n = 0) : (1 ≤ legs.length ∧ legs.length ≤ 4) ∧ (0 ≤ s.fare.n ∧ s.fare.n ≤ 1125899906842624) ∧ ∀ l ∈ legs, 1 ≤ l.wt.n := by
  unfold saleErr at h
  split at h
  · omega
  · split at h
    · rename_i h1 h2
      unfold saleShape at h2
      simp only [Bool.and_eq_true, decide_eq_true_eq, Bool.not_eq_true'] at h2
      obtain ⟨⟨⟨⟨_, h3⟩, h4⟩, h5⟩, _⟩ := h2
      refine ⟨by omega, ?_, fun l hl => ?_⟩
      · unfold amounts at h4
        simp only [List.all_cons, Bool.and_eq_true, Bool.not_eq_true', Bool.or_eq_false_iff, decide_eq_false_iff_not] at h4
        have := inM_iff.1 (by simpa using h4.1.2)
        omega
      · have h6 := List.any_eq_false.1 h5 l hl
        unfold legBad at h6
        simp only [Bool.or_eq_true, decide_eq_true_eq, not_or] at h6
        have := l.wt.u32
        omega
    · omega
/-- The values of a document's coupons. -/
def ValsOf (fare : Int) (legs : List Leg) (vals : List Int) : Prop :=
  ∃ (ys : List (Int × Nat)) (W : List Int), W = legs.map (fun l => l.wt.n) ∧ (ys.Perm (rl fare W.sum W) ∧ ys.Pairwise RR) ∧ vals = give (whs fare W.sum W) (ys.take (leftOf fare W.sum W).toNat)
/-- A document's slices, read. -/
structure DocR (g : Heap) (d : DocP) (legs : List Leg) (taxes : List Tax) (vals : List Int) : Prop where
  s : SaleR g d.s legs taxes
  v : SlR g encI 1 d.vals vals
/-- A new document. -/
structure NewDoc (g : Heap) (t : Ticket) (s : SaleP) (legs : List Leg) (taxes : List Tax) (d : DocP) (vals : List Int) : Prop where
  r : DocR g d legs taxes vals
  eq : d = { DocP.zero with t := t, s := { s with legs := d.s.legs, taxes := d.s.taxes }, vals := d.vals, paid := s.fare }
  ok : ValsOf s.fare.n legs vals
  len : vals.length = legs.length

-- << make_c
theorem make_c {c : Cx} {g : Heap} {w : World} {F : List Asn} (t : Ticket) (s : SaleP) (legs : List Leg) (taxes : List Tax) (n : Int) (hs : SaleR g s legs taxes) (hn : s.name.length ≤ 1000) (hl : legs.length ≤ 1000) (ht : taxes.length ≤ 1000) (H : Holds c g w F) :
    Calls Tryz.prog 58 #[t.v, s.v, .int .i64 n] w (Ret fun v w' => ∃ g', Le g g' ∧ Holds c g' w' F ∧
      ((makeErr t s legs taxes n ≠ 0 ∧ v = .tuple #[DocP.zero.v, .int .i64 (makeErr t s legs taxes n)]) ∨
       (makeErr t s legs taxes n = 0 ∧ ∃ d vals, v = .tuple #[DocP.v d, .int .i64 0] ∧ NewDoc g' t s legs taxes d vals))) := by
  have H : Holds c g w ([] ++ F) := H
  have hw8 : IntKind.i64.wrap t.car.n = t.car.n := w64 (by have := t.car.u8; omega) (by have := t.car.u8; omega)
  -- tarmac/ticket.Make  (function 88; params ['25', '59', '3']; results cell:6 62 tmp:7; ntmps 81)
  refine calls_of_wpF Tryz.func58 rfl Tryz.ntmps58 rfl ?_
  refine wpF_seq ?_
  refine wpF_region rfl ?_   -- R0
  refine wpO_eff rfl (e_boxA H rfl fun b3 w H => ?_)
  refine wpO_eff rfl (e_boxA H rfl fun b4 w H => ?_)
  refine wpO_eff rfl (e_alloc H Tryz.zeroValue62 fun b6 w H => ?_)
  refine wpO_val rfl (x_assignI rfl) ?_
  refine wpO_nil ?_
  refine wpF_seq ?_
  refine wpF_seq ?_
  refine wpF_region rfl ?_   -- R1
  refine wpO_val rfl (x_load1 Tryz.isAgg59 Tryz.sizeOf59 rfl (H.getF 1 rfl) rfl) ?_
  refine wpO_val rfl (x_moveI rfl) ?_
  refine wpO_eff rfl (e_callF (vs := [s.v, .int .i64 n]) Tryz.call96 rfl ((tcheck_c s legs taxes n hs hn hl ht H).mono (Ret.mono ?_)))
  rintro v16 w ⟨rfl, H'⟩
  replace H := H.re H' rfl
  refine wpO_val rfl (x_assignI rfl) ?_
  refine wpO_nil ?_
  refine wpF_block ?_   -- block 0
  refine wpF_seq ?_
  refine wpF_region rfl ?_   -- R2
  refine wpO_val rfl (x_moveI rfl) ?_
  refine wpO_val rfl (x_cmp rfl rfl rfl rfl) ?_
  refine wpO_val rfl (x_moveB rfl) ?_
  refine wpO_split 20 rfl (fun hb20 => ?_) (fun hb20 => ?_)
  ·
    have hE : makeErr t s legs taxes n = 1 := by unfold makeErr; rw [if_pos (.inl (by simpa using hb20))]
    refine wpO_not rfl ?_
    refine wpO_not rfl ?_
    refine wpO_not rfl ?_
    refine wpO_not rfl ?_
    refine wpO_not rfl ?_
    refine wpO_val rfl (x_pickB rfl rfl) ?_
    refine wpO_val rfl (x_moveB rfl) ?_
    refine wpO_not rfl ?_
    refine wpO_not rfl ?_
    refine wpO_not rfl ?_
    refine wpO_val rfl (x_pickB rfl rfl) ?_
    refine wpO_val rfl (x_moveB rfl) ?_
    refine wpO_not rfl ?_
    refine wpO_not rfl ?_
    refine wpO_not rfl ?_
    refine wpO_val rfl (x_pickB rfl rfl) ?_
    refine wpO_val rfl (x_assignB rfl) ?_
    refine wpO_nil ?_
    refine wpF_true rfl ?_
    refine wpF_seq ?_
    refine wpF_region rfl ?_   -- R3
    refine wpO_val rfl (x_buildSt stDoc [] rfl (cs := DocP.zero.v.cells) rfl) ?_
    refine wpO_eff0 rfl (e_storeAll H 2 rfl Tryz.sizeOf62 rfl rfl rfl rfl rfl fun w H => ?_)
    refine wpO_val rfl (x_assignI rfl) ?_
    refine wpO_nil ?_
    refine wpF_ret ?_
    repeat (with_reducible first | refine thenF_r ?_ | refine inBlockF_r ?_)
    refine end_ct rfl rfl rfl Tryz.isAgg62 Tryz.sizeOf62 (H.getF 2 rfl) rfl ?_   -- cell:6 62 tmp:7
    exact ⟨g, Le.refl g, H.sel [] 3 rfl rfl, .inl ⟨by rw [hE]; decide, by rw [hE]; rfl⟩⟩
  ·
    refine wpO_val rfl (x_fieldAddrN Tryz.underlying25 rfl Tryz.sizeOf5 rfl rfl) ?_
    refine wpO_val rfl (x_load0bI Tryz.isAgg5 rfl (H.getF 0 rfl) rfl) ?_
    refine wpO_val rfl (x_conv Tryz.underlying5 Tryz.underlying3 rfl) ?_
    refine wpO_val rfl (x_moveI rfl) ?_
    refine wpO_val rfl (x_cmp rfl rfl rfl rfl) ?_
    refine wpO_val rfl (x_pickB rfl rfl) ?_
    refine wpO_val rfl (x_moveB rfl) ?_
    refine wpO_split 27 rfl (fun hb27 => ?_) (fun hb27 => ?_)
    ·
      rw [hw8] at hb27
      have hE : makeErr t s legs taxes n = 1 := by unfold makeErr; rw [if_pos (.inr (.inl (by simpa using hb27)))]
      refine wpO_not rfl ?_
      refine wpO_not rfl ?_
      refine wpO_not rfl ?_
      refine wpO_val rfl (x_pickB rfl rfl) ?_
      refine wpO_val rfl (x_moveB rfl) ?_
      refine wpO_not rfl ?_
      refine wpO_not rfl ?_
      refine wpO_not rfl ?_
      refine wpO_val rfl (x_pickB rfl rfl) ?_
      refine wpO_val rfl (x_assignB rfl) ?_
      refine wpO_nil ?_
      refine wpF_true rfl ?_
      refine wpF_seq ?_
      refine wpF_region rfl ?_   -- R3
      refine wpO_val rfl (x_buildSt stDoc [] rfl (cs := DocP.zero.v.cells) rfl) ?_
      refine wpO_eff0 rfl (e_storeAll H 2 rfl Tryz.sizeOf62 rfl rfl rfl rfl rfl fun w H => ?_)
      refine wpO_val rfl (x_assignI rfl) ?_
      refine wpO_nil ?_
      refine wpF_ret ?_
      repeat (with_reducible first | refine thenF_r ?_ | refine inBlockF_r ?_)
      refine end_ct rfl rfl rfl Tryz.isAgg62 Tryz.sizeOf62 (H.getF 2 rfl) rfl ?_   -- cell:6 62 tmp:7
      exact ⟨g, Le.refl g, H.sel [] 3 rfl rfl, .inl ⟨by rw [hE]; decide, by rw [hE]; rfl⟩⟩
    ·
      refine wpO_val rfl (x_fieldAddrN Tryz.underlying25 rfl Tryz.sizeOf23 rfl rfl) ?_
      refine wpO_val rfl (x_load0bI Tryz.isAgg23 rfl (H.getF 0 rfl) rfl) ?_
      refine wpO_val rfl (x_cmp rfl rfl rfl rfl) ?_
      refine wpO_val rfl (x_pickB rfl rfl) ?_
      refine wpO_val rfl (x_moveB rfl) ?_
      refine wpO_split 32 rfl (fun hb32 => ?_) (fun hb32 => ?_)
      ·
        have hE : makeErr t s legs taxes n = 1 := by unfold makeErr; rw [if_pos (.inr (.inr (.inl (by simpa using hb32))))]
        refine wpO_not rfl ?_
        refine wpO_not rfl ?_
        refine wpO_not rfl ?_
        refine wpO_val rfl (x_pickB rfl rfl) ?_
        refine wpO_val rfl (x_assignB rfl) ?_
        refine wpO_nil ?_
        refine wpF_true rfl ?_
        refine wpF_seq ?_
        refine wpF_region rfl ?_   -- R3
        refine wpO_val rfl (x_buildSt stDoc [] rfl (cs := DocP.zero.v.cells) rfl) ?_
        refine wpO_eff0 rfl (e_storeAll H 2 rfl Tryz.sizeOf62 rfl rfl rfl rfl rfl fun w H => ?_)
        refine wpO_val rfl (x_assignI rfl) ?_
        refine wpO_nil ?_
        refine wpF_ret ?_
        repeat (with_reducible first | refine thenF_r ?_ | refine inBlockF_r ?_)
        refine end_ct rfl rfl rfl Tryz.isAgg62 Tryz.sizeOf62 (H.getF 2 rfl) rfl ?_   -- cell:6 62 tmp:7
        exact ⟨g, Le.refl g, H.sel [] 3 rfl rfl, .inl ⟨by rw [hE]; decide, by rw [hE]; rfl⟩⟩
      ·
        refine wpO_val rfl (x_fieldAddrN Tryz.underlying25 rfl Tryz.sizeOf23 rfl rfl) ?_
        refine wpO_val rfl (x_load0bI Tryz.isAgg23 rfl (H.getF 0 rfl) rfl) ?_
        refine wpO_val rfl (x_cmp rfl rfl rfl rfl) ?_
        refine wpO_val rfl (x_pickB rfl rfl) ?_
        refine wpO_val rfl (x_assignB rfl) ?_
        refine wpO_nil ?_
        refine wpF_cond _ rfl (fun hc => ?_) (fun hc => ?_)   -- t17
        ·
          have hE : makeErr t s legs taxes n = 1 := by unfold makeErr; rw [if_pos (.inr (.inr (.inr (by simpa using hc))))]
          refine wpF_seq ?_
          refine wpF_region rfl ?_   -- R3
          refine wpO_val rfl (x_buildSt stDoc [] rfl (cs := DocP.zero.v.cells) rfl) ?_
          refine wpO_eff0 rfl (e_storeAll H 2 rfl Tryz.sizeOf62 rfl rfl rfl rfl rfl fun w H => ?_)
          refine wpO_val rfl (x_assignI rfl) ?_
          refine wpO_nil ?_
          refine wpF_ret ?_
          repeat (with_reducible first | refine thenF_r ?_ | refine inBlockF_r ?_)
          refine end_ct rfl rfl rfl Tryz.isAgg62 Tryz.sizeOf62 (H.getF 2 rfl) rfl ?_   -- cell:6 62 tmp:7
          exact ⟨g, Le.refl g, H.sel [] 3 rfl rfl, .inl ⟨by rw [hE]; decide, by rw [hE]; rfl⟩⟩
        ·
          have hN : ¬ (saleErr s legs taxes n = 1 ∨ t.car.n ≥ n ∨ t.ser.n < 1 ∨ t.ser.n > 9999999999) := by
            rw [hw8] at hb27
            simp at hb20 hb27 hb32 hc; omega
          have hE : makeErr t s legs taxes n = saleErr s legs taxes n := by unfold makeErr; rw [if_neg hN]
          refine wpF_seq ?_
          refine wpF_region rfl ?_   -- R4
          refine wpO_val rfl (x_moveI rfl) ?_
          refine wpO_val rfl (x_cmp rfl rfl rfl rfl) ?_
          refine wpO_val rfl (x_assignB rfl) ?_
          refine wpO_nil ?_
          refine wpF_cond _ rfl (fun hc => ?_) (fun hc => ?_)   -- t38
          ·
            refine wpF_seq ?_
            refine wpF_region rfl ?_   -- R5
            refine wpO_val rfl (x_buildSt stDoc [] rfl (cs := DocP.zero.v.cells) rfl) ?_
            refine wpO_val rfl (x_moveI rfl) ?_
            refine wpO_eff0 rfl (e_storeAll H 2 rfl Tryz.sizeOf62 rfl rfl rfl rfl rfl fun w H => ?_)
            refine wpO_val rfl (x_assignI rfl) ?_
            refine wpO_nil ?_
            refine wpF_ret ?_
            repeat (with_reducible first | refine thenF_r ?_ | refine inBlockF_r ?_)
            refine end_ct rfl rfl rfl Tryz.isAgg62 Tryz.sizeOf62 (H.getF 2 rfl) rfl ?_   -- cell:6 62 tmp:7
            have hc : saleErr s legs taxes n ≠ 0 := by simpa using hc
            exact ⟨g, Le.refl g, H.sel [] 3 rfl rfl, .inl ⟨by rw [hE]; exact hc, by rw [hE]; rfl⟩⟩
          ·
            have hE0 : saleErr s legs taxes n = 0 := by simpa using hc
            rw [hE0] at hE
            obtain ⟨⟨ho1, ho2⟩, hof, how⟩ := saleOk hE0
            refine wpF_skip ?_
            refine wpF_seq ?_
            refine wpF_drawC [0, 1, 3, 4, 2, 6, 5, 7, 8, 9] [2, 5, 7, 9] [0, 0, 4, 1, 1, 4, 2, 4, 3, 4] (RH 1 c [pt b3 (.cells t.v.cells 25), pt b4 (.cells s.v.cells 59), pt b6 (.cells DocP.zero.v.cells 62)]) mixed (by kernel_rfl) rfl fun w hw => ?_
            have H := H.to hw
            have H0 := H.has
            refine wpDC_e rfl rfl rfl rfl (x_fieldAddrN Tryz.underlying59 rfl Tryz.sizeOf56 rfl rfl) ?_
            refine wpDC_e rfl rfl rfl rfl (x_load0bL Tryz.isAgg56 rfl (H.getF 1 rfl) rfl) ?_
            refine wpDC_q rfl rfl rfl (fun w => (x_fieldAddrN Tryz.underlying59 rfl Tryz.sizeOf57 rfl rfl)) ?_
            refine wpDC_h rfl rfl rfl rfl rfl H0 (fun w HR => (x_load0bL Tryz.isAgg57 rfl (HR.get 1 rfl) rfl)) ?_
            refine wpDC_eff rfl rfl rfl (e_callF (vs := [s.legs.v]) Tryz.call85 rfl ((cloneLeg_c hs.l (by omega) H).mono (Ret.mono ?_)))
            rintro v45 w ⟨sl, g1, rfl, hle1, hr1, H'⟩
            replace H := H.re H' rfl
            refine ⟨fun _ => H.has, ?_⟩
            refine wpDC_q rfl rfl rfl (fun w => (x_fieldAddrN Tryz.underlying59 rfl Tryz.sizeOf56 rfl rfl)) ?_
            refine wpDC_eff rfl rfl rfl (e_callF (vs := [s.taxes.v]) Tryz.call86 rfl ((cloneTax_c (hs.t.mono hle1) (by omega) H).mono (Ret.mono ?_)))
            rintro v48 w ⟨st, g2, rfl, hle2, hr2, H'⟩
            replace H := H.re H' rfl
            refine ⟨fun h => absurd h (by decide), ?_⟩
            refine wpDC_eff0 rfl rfl rfl (e_store H 1 rfl Tryz.sizeOf56 rfl rfl rfl rfl rfl fun w H => ⟨fun h => absurd h (by decide), ?_⟩)
            refine wpDC_q rfl rfl rfl (fun w => (x_fieldAddrN Tryz.underlying59 rfl Tryz.sizeOf57 rfl rfl)) ?_
            refine wpDC_eff0 rfl rfl rfl (e_store H 1 rfl Tryz.sizeOf57 rfl rfl rfl rfl rfl fun w H => ⟨fun h => absurd h (by decide), ?_⟩)
            refine wpDC_nil ?_
            have H : Holds c g2 w ([pt b3 (.cells t.v.cells 25), pt b4 (.cells ({ s with legs := sl, taxes := st } : SaleP).v.cells 59), pt b6 (.cells DocP.zero.v.cells 62)] ++ F) := H
            have H := H.nilRowAt (E := 29) (m := 1)
            have hs := hr1.mono hle2
            have hlen := hs.len
            refine wpF_seq ?_
            refine wpF_region rfl ?_   -- R7
            refine wpO_val rfl (x_assignL rfl) ?_
            refine wpO_nil ?_
            refine wpF_seq ?_
            refine wpF_seq ?_
            refine wpF_region rfl ?_   -- R8
            refine wpO_val rfl (x_fieldAddrN Tryz.underlying59 rfl Tryz.sizeOf56 rfl rfl) ?_
            refine wpO_val rfl (x_load0bL Tryz.isAgg56 rfl (H.getF 1 rfl) rfl) ?_
            refine wpO_val rfl (x_lenSl Tryz.underlying56 rfl) ?_
            refine wpO_val rfl (x_moveI rfl) ?_
            refine wpO_nil ?_
            refine wpF_block ?_   -- block 1
            refine wpF_loop (fun q f w => ∃ k s9 f0, (k ≤ legs.length ∧ q = legs.length - k ∧ s9.len = k) ∧ Holds c g2 w ([pt b3 (.cells t.v.cells 25), pt b4 (.cells ({ s with legs := sl, taxes := st } : SaleP).v.cells 59), pt b6 (.cells DocP.zero.v.cells 62), rowE 29 (IK.v (k := .u32)) 1 s9 ((legs.take k).map fun l => l.wt)] ++ F) ∧ f = updL f0 [(3, .pointer (some ⟨b3, 0, none⟩)), (4, .pointer (some ⟨b4, 0, none⟩)), (6, .pointer (some ⟨b6, 0, none⟩)), (9, s9.v), (52, sl.v), (53, .int .i64 sl.len), (54, .int .i64 (k : Nat))]) legs.length ?_ ?_
            · exact ⟨0, Sl.nil, _, ⟨by omega, by omega, rfl⟩, H, updL_eta ⟨rfl, rfl, rfl, rfl, rfl, rfl, rfl, trivial⟩⟩
            · rintro q f w ⟨k, s9, f0, ⟨hk, hn', hl9⟩, H, rfl⟩
              refine wpF_seq ?_
              refine wpF_region rfl ?_   -- R9
              refine wpO_val rfl (x_cmp rfl rfl rfl rfl) ?_
              refine wpO_nil ?_
              refine wpF_seq ?_
              refine wpF_cond _ rfl (fun hc => ?_) (fun hc => ?_)   -- t55
              ·
                have hk' : k < legs.length := by rw [← hlen]; simpa using hc
                refine wpF_skip ?_
                refine wpF_seq ?_
                refine wpF_block ?_   -- block 2
                refine wpF_seq ?_
                refine wpF_region rfl ?_   -- R10
                refine wpO_val rfl (x_indexEl hs Tryz.underlying56 Tryz.sizeOf31 rfl rfl (by omega) (by omega)) ?_
                refine wpO_val rfl (x_loadEl elLeg hs H rfl (List.getElem?_eq_getElem hk')) ?_
                refine wpO_eff rfl (e_alloc H Tryz.zeroValue31 fun b11 w H => ?_)
                refine wpO_eff0 rfl (e_storeAll H 4 rfl Tryz.sizeOf31 rfl rfl rfl rfl rfl fun w H => ?_)
                refine wpO_nil ?_
                refine wpF_region rfl ?_   -- R11
                refine wpO_val rfl (x_moveL rfl) ?_
                refine wpO_val rfl (x_fieldAddrN Tryz.underlying31 rfl Tryz.sizeOf29 rfl rfl) ?_
                refine wpO_val rfl (x_load0bI Tryz.isAgg29 rfl (H.getF 4 rfl) rfl) ?_
                refine wpO_eff rfl (e_buildSlice H Tryz.underlying171 Tryz.sizeOf29 Tryz.zeroValue29 rfl rfl (vs := [legs[k].wt.v]) rfl rfl (cs := [legs[k].wt.v]) rfl fun b61 w H => ?_)
                refine wpO_eff rfl (e_append1 (enc := IK.v (k := .u32)) legs[k].wt H 3 5 rfl rfl Tryz.underlying171 isuint32 rfl rfl rfl rfl (by omega) (by omega) fun s62 w hs62 hn62 H => ?_)
                refine wpO_val rfl (x_assignL rfl) ?_
                refine wpO_nil ?_
                refine wpF_region rfl ?_   -- R12
                refine wpO_val rfl (x_arith rfl rfl (fun _ => rfl) rfl) ?_
                refine wpO_val rfl (x_moveI rfl) ?_
                refine wpO_nil ?_
                have e : (legs.take k).map (fun l => l.wt) ++ [legs[k].wt] = (legs.take (k + 1)).map fun l => l.wt := by
                  rw [List.take_succ_eq_append_getElem hk', List.map_append]; rfl
                have H := H.sel [0, 1, 2, 3] 6 rfl rfl
                exact ⟨legs.length - (k + 1), by omega, k + 1, s62, _, ⟨by omega, rfl, by omega⟩, e ▸ H, updL_eta ⟨rfl, rfl, rfl, rfl, rfl, rfl, vi64 (w64 (by omega) (by omega)), trivial⟩⟩
              ·
                have hk2 : k = legs.length := by have h3 : ¬ (k : Int) < legs.length := (by rw [← hlen]; simpa using hc); omega
                subst hk2
                rw [List.take_length] at H
                obtain ⟨g3, hle3, H, hrw⟩ := Holds.sealRow (enc := IK.v (k := .u32)) (xs := legs.map fun l => l.wt) (show Holds c g2 w (rowA 29 1 s9 (flat IK.v (legs.map fun l => l.wt)) :: ([pt b3 (.cells t.v.cells 25), pt b4 (.cells ({ s with legs := sl, taxes := st } : SaleP).v.cells 59), pt b6 (.cells DocP.zero.v.cells 62)] ++ F)) from H.sel [3, 0, 1, 2] 4 rfl rfl) rfl (fun _ _ => rfl) (by decide)
                refine wpF_exit ?_   -- exit 1
                refine wpF_seq ?_
                refine wpF_region rfl ?_   -- R13
                refine wpO_val rfl (x_fieldAddrN Tryz.underlying59 rfl Tryz.sizeOf2 rfl rfl) ?_
                refine wpO_val rfl (x_load0bI Tryz.isAgg2 rfl (H.getF 1 rfl) rfl) ?_
                refine wpO_val rfl (x_moveL rfl) ?_
                refine wpO_eff rfl (e_callF (vs := [.int .i64 s.fare.n, s9.v]) Tryz.call97 rfl ((share_c s.fare.n hof hrw (by rw [List.length_map]; omega) (by rw [List.length_map]; omega) (fun x hx => by obtain ⟨l, hl, rfl⟩ := List.mem_map.1 hx; exact how l hl) H).mono (Ret.mono ?_)))
                rintro v68 w ⟨sv, g4, ys, W, hW, rfl, hys, hle4, hrv, H'⟩
                rw [List.map_map] at hW
                replace H := H.re H' rfl
                refine wpO_val rfl (x_moveT rfl) ?_
                refine wpO_val rfl (x_extractL rfl rfl) ?_
                refine wpO_val rfl (x_extractI rfl rfl) ?_
                refine wpO_val rfl (x_assignL rfl) ?_
                refine wpO_val rfl (x_assignI rfl) ?_
                refine wpO_nil ?_
                refine wpF_seq ?_
                refine wpF_seq ?_
                refine wpF_region rfl ?_   -- R14
                refine wpO_val rfl (x_moveI rfl) ?_
                refine wpO_val rfl (x_cmp rfl rfl rfl rfl) ?_
                refine wpO_nil ?_
                refine wpF_cond _ rfl (fun hc => absurd hc (by simp)) (fun hc => ?_)
                ·
                  refine wpF_skip ?_
                  refine wpF_seq ?_
                  refine wpF_region rfl ?_   -- R16
                  refine wpO_val rfl (x_load1 Tryz.isAgg25 Tryz.sizeOf25 rfl (H.getF 0 rfl) rfl) ?_
                  refine wpO_val rfl (x_load1 Tryz.isAgg59 Tryz.sizeOf59 rfl (H.getF 1 rfl) rfl) ?_
                  refine wpO_val rfl (x_moveL rfl) ?_
                  refine wpO_val rfl (x_fieldAddrN Tryz.underlying59 rfl Tryz.sizeOf2 rfl rfl) ?_
                  refine wpO_val rfl (x_load0bI Tryz.isAgg2 rfl (H.getF 1 rfl) rfl) ?_
                  refine wpO_val rfl (x_buildSt stDoc [t.v, ({ s with legs := sl, taxes := st } : SaleP).v, sv.v, s.fare.v] rfl (cs := ({ DocP.zero with t := t, s := { s with legs := sl, taxes := st }, vals := sv, paid := s.fare } : DocP).v.cells) (by kernel_rfl)) ?_
                  refine wpO_eff0 rfl (e_storeAll H 2 rfl Tryz.sizeOf62 rfl rfl rfl rfl rfl fun w H => ?_)
                  refine wpO_val rfl (x_assignI rfl) ?_
                  refine wpO_nil ?_
                  refine wpF_ret ?_
                  repeat (with_reducible first | refine thenF_r ?_ | refine inBlockF_r ?_)
                  refine end_ct rfl rfl rfl Tryz.isAgg62 Tryz.sizeOf62 (H.getF 2 rfl) rfl ?_   -- cell:6 62 tmp:7
                  have hle : Le g g4 := ((hle1.trans hle2).trans hle3).trans hle4
                  have hle24 : Le g2 g4 := hle3.trans hle4
                  exact ⟨g4, hle, H.sel [] 3 rfl rfl, .inr ⟨hE, { DocP.zero with t := t, s := { s with legs := sl, taxes := st }, vals := sv, paid := s.fare }, _, rfl, ⟨⟨⟨hs.mono hle24, hr2.mono hle24⟩, hrv⟩, rfl, ⟨ys, W, hW, hys, rfl⟩, by rw [give_len, whs, List.length_map, hW, List.length_map]⟩⟩⟩
-- >> make_c
end Go.Proofs.YtfoginganpgmcaaGreat
