/- HandoverStranger: the walk. -/
import Derived.Test.YtfoginganpgmcaaGreatStrange
set_option linter.unusedSimpArgs false
set_option linter.unusedVariables false
namespace Go.Proofs.YtfoginganpgmcaaGreat
open Go Go.Tw
set_option maxRecDepth 100000

-- << hsYes_c
theorem hsYes_c {c : Cx} {g0 : Heap} {w : World} {F : List Asn} {self : IK .u8} {nn : IK .i64} {s : Sl} {xs : List BAct} {k : Key} {fr : IK .u8} {c0 : Coupon} (h0 : newOk self nn = true) (hgood : GoodActs xs) (hfr1 : fr.n ≠ self.n) (hfr2 : fr.n < nn.n) (hs : SlR g0 BAct.v 46 s xs) (hsales : ∀ x ∈ xs, ∃ legs taxes, SaleR g0 x.s legs taxes) (H : Holds c g0 w F) :
    Calls Tryz.prog 3 #[self.v, nn.v, s.v, k.v, fr.v, c0.v] w (Ret fun v w' => v = .bool true ∧ Holds c g0 w' F) := by
  have H : Holds c g0 w ([] ++ F) := H
  -- tarmac/tarmaclaw16.HandoverStranger  (function 3; params ['5', '3', '22', '27', '5', '34']; results tmp:12; ntmps 193)
  refine calls_of_wpF Tryz.func3 rfl Tryz.ntmps3 rfl ?_
  refine wpF_seq ?_
  refine wpF_region rfl ?_   -- R0
  refine wpO_eff rfl (e_boxA H rfl fun b9 w H => ?_)
  refine wpO_eff rfl (e_boxA H rfl fun b11 w H => ?_)
  refine wpO_val rfl (x_assignB rfl) ?_
  refine wpO_nil ?_
  refine wpF_seq ?_
  refine wpF_seq ?_
  refine wpF_region rfl ?_   -- R1
  refine wpO_val rfl (x_moveL rfl) ?_
  refine wpO_eff rfl (e_callF (vs := [s.v, Sl.nil.v]) Tryz.call6 rfl ((greatF_c hgood hs H).mono (Ret.mono ?_)))   -- of t26 ('app', 'Go.Value.slice', [('app', 'none', []), ('num', 0),
  rintro v27 w ⟨rfl, H⟩
  refine wpO_nil ?_
  refine wpF_condF rfl rfl ?_
  refine wpF_skip ?_
  refine wpF_seq ?_
  refine wpF_region rfl ?_   -- R3
  refine wpO_val rfl (x_moveI rfl) ?_
  refine wpO_val rfl (x_moveI rfl) ?_
  refine wpO_val rfl (x_moveL rfl) ?_
  refine wpO_eff rfl (e_callF (vs := [(self : IK .u8).v, (nn : IK .i64).v, s.v]) Tryz.call8 rfl ((builtYes_c h0 hs hgood.1 hgood.2 hsales H).mono (Ret.mono ?_)))   -- of t30 t31 t32
  rintro v33 w ⟨g1, b33, bw33, B, W, rfl, hle1, hB, H⟩
  have H : Holds c g1 w ([bookA b33 B, rbookA bw33 W, pt b9 (.cells k.v.cells 27), pt b11 (.cells c0.v.cells 34)] ++ F) := H
  replace H := H.sel [2, 3, 0] 4 rfl rfl
  obtain ⟨φ, hφ⟩ := hB.docs
  have hne : fr.n ≠ B.self.n := by rw [hB.eS]; exact hfr1
  have hlt : fr.n < B.n.n := by rw [hB.eN]; exact hfr2
  have hno : (B.owns.map (·.1)).Nodup := Holds.keysNodup (L := Bk.L B b33) (H.bkOut 2 rfl) 2 rfl
  have hnh : (B.helds.map (·.1)).Nodup := Holds.keysNodup (L := Bk.L B b33) (H.bkOut 2 rfl) 3 rfl
  refine wpO_val rfl (x_moveT rfl) ?_
  refine wpO_val rfl (x_extractP rfl rfl) ?_
  refine wpO_val rfl (x_extractP rfl rfl) ?_
  refine wpO_val rfl (x_assignP rfl) ?_
  refine wpO_val rfl (x_assignP rfl) ?_
  refine wpO_nil ?_
  refine wpF_seq ?_
  refine wpF_seq ?_
  refine wpF_region rfl ?_   -- R4
  refine wpO_val rfl (x_moveP rfl) ?_
  refine wpO_val rfl (x_eqlNil Tryz.underlying37 rfl rfl) ?_
  refine wpO_val rfl (x_moveB rfl) ?_
  refine wpO_val rfl (x_moveI rfl) ?_
  refine wpO_val rfl (x_moveI rfl) ?_
  refine wpO_val rfl (x_cmp rfl rfl rfl rfl) ?_
  refine wpO_val rfl (x_pickB rfl rfl) ?_
  refine wpO_val rfl (x_moveB rfl) ?_
  refine wpO_is (z := false) 43 rfl (by simpa using hfr1) ?_
  refine wpO_val rfl (x_moveI rfl) ?_
  refine wpO_val rfl (x_conv Tryz.underlying5 Tryz.underlying3 rfl) ?_
  refine wpO_val rfl (x_moveI rfl) ?_
  refine wpO_val rfl (x_cmp rfl rfl rfl rfl) ?_
  refine wpO_val rfl (x_pickB rfl rfl) ?_
  refine wpO_nil ?_
  refine wpF_condF rfl (by rw [w64 (by have := fr.u8; omega) (by have := fr.u8; omega)]; simpa using hfr2) ?_
  refine wpF_skip ?_
  refine wpF_seq ?_
  refine wpF_region rfl ?_   -- R6
  refine wpO_val rfl (x_moveP rfl) ?_
  refine wpO_eff rfl (e_callF (vs := [.pointer (some ⟨b33, 0, none⟩)]) Tryz.call9 rfl ((clone_i hφ H 2 rfl).mono (Ret.mono ?_)))   -- of t50
  rintro v51 w ⟨b51, g, B2, rfl, hle2, hlike, hφ2, H⟩
  have hφ := hφ.mono hle2
  have hle0 := hle1.trans hle2
  have hsame := bkSame_like (φ := φ) hlike hno hnh
  refine wpO_val rfl (x_assignP rfl) ?_
  refine wpO_nil ?_
  refine wpF_seq ?_
  refine wpF_region rfl ?_   -- R7
  refine wpO_val rfl (x_moveP rfl) ?_
  refine wpO_val rfl (x_load1V ((k : Key).v) Tryz.isAgg27 Tryz.sizeOf27 rfl (H.getF 0 rfl) (by kernel_rfl) (by kernel_rfl)) ?_
  refine wpO_eff rfl (e_callF (vs := [.pointer (some ⟨b33, 0, none⟩), (k : Key).v]) Tryz.call10 rfl ((own_i k H 2 rfl).mono (Ret.mono ?_)))   -- of t53 t54
  rintro v55 w ⟨rfl, H⟩
  refine wpO_val rfl (x_moveT rfl) ?_
  refine wpO_val rfl (x_extractA rfl rfl) ?_
  refine wpO_val rfl (x_extractI rfl rfl) ?_
  refine wpO_eff rfl (e_alloc H Tryz.zeroValue43 fun b16 w H => ?_)
  refine wpO_eff0 rfl (e_storeAll (v := ((kget B.owns k).getD Own.zero).v) H 4 rfl Tryz.sizeOf43 rfl rfl rfl rfl (by kernel_rfl) fun w H => ?_)
  refine wpO_val rfl (x_assignI rfl) ?_
  refine wpO_nil ?_
  refine wpF_seq ?_
  refine wpF_cut (fun f w => ∃ f0, Holds c g w ([pt b9 (.cells k.v.cells 27), pt b11 (.cells c0.v.cells 34), bookA b33 B, bookA b51 B2, pt b16 (.cells ((kget B.owns k).getD Own.zero).v.cells 43)] ++ F) ∧ f = updL f0 [(4, (fr : IK .u8).v), (9, .pointer (some ⟨b9, 0, none⟩)), (11, .pointer (some ⟨b11, 0, none⟩)), (13, .pointer (some ⟨b33, 0, none⟩)), (15, .pointer (some ⟨b51, 0, none⟩)), (16, .pointer (some ⟨b16, 0, none⟩)), (17, .int .i64 (if (kget B.owns k).isSome then 0 else 4))]) ?_ ?_   -- join if R8
  ·
    refine wpF_seq ?_
    refine wpF_cut (fun f w => ∃ f0, Holds c g w ([pt b9 (.cells k.v.cells 27), pt b11 (.cells c0.v.cells 34), bookA b33 B, bookA b51 B2, pt b16 (.cells ((kget B.owns k).getD Own.zero).v.cells 43)] ++ F) ∧ f = updL f0 [(4, (fr : IK .u8).v), (9, .pointer (some ⟨b9, 0, none⟩)), (11, .pointer (some ⟨b11, 0, none⟩)), (12, .bool false), (13, .pointer (some ⟨b33, 0, none⟩)), (15, .pointer (some ⟨b51, 0, none⟩)), (16, .pointer (some ⟨b16, 0, none⟩)), (17, .int .i64 (if (kget B.owns k).isSome then 0 else 4)), (67, .bool (offW B k fr))]) ?_ ?_   -- join R8
    ·
      refine wpF_region rfl ?_   -- R8
      refine wpO_val rfl (x_moveI rfl) ?_
      refine wpO_val rfl (x_cmp rfl rfl rfl rfl) ?_
      refine wpO_val rfl (x_moveB rfl) ?_
      refine wpO_split 60 rfl (fun hb60 => ?_) (fun hb60 => ?_)
      ·
        refine wpO_not rfl ?_
        refine wpO_not rfl ?_
        refine wpO_not rfl ?_
        refine wpO_not rfl ?_
        refine wpO_not rfl ?_
        refine wpO_not rfl ?_
        refine wpO_val rfl (x_pickB rfl rfl) ?_
        refine wpO_nil ?_
        exact ⟨_, H, updL_eta ⟨rfl, rfl, rfl, rfl, rfl, rfl, rfl, rfl, congrArg Value.bool (by cases h : (kget B.owns k).isSome <;> simp [offW, h] at hb60 ⊢), trivial⟩⟩
      ·
        refine wpO_val rfl (x_fieldAddrN Tryz.underlying43 rfl Tryz.sizeOf34 rfl rfl) ?_
        refine wpO_val rfl (x_fieldAddrN Tryz.underlying34 rfl Tryz.sizeOf31 rfl rfl) ?_
        refine wpO_val rfl (x_fieldAddrN Tryz.underlying31 rfl Tryz.sizeOf5 rfl rfl) ?_
        refine wpO_val rfl (x_load0bI Tryz.isAgg5 rfl (H.getF 4 rfl) rfl) ?_
        refine wpO_val rfl (x_moveI rfl) ?_
        refine wpO_val rfl (x_cmp rfl rfl rfl rfl) ?_
        refine wpO_val rfl (x_pickB rfl rfl) ?_
        refine wpO_nil ?_
        exact ⟨_, H, updL_eta ⟨rfl, rfl, rfl, rfl, rfl, rfl, rfl, rfl, congrArg Value.bool (by cases h : (kget B.owns k).isSome <;> simp [offW, h] at hb60 ⊢), trivial⟩⟩
    · rintro f w ⟨f0, H, rfl⟩
      refine wpF_cond _ rfl (fun hc67 => ?_) (fun hc67 => ?_)
      ·
        refine wpF_seq ?_
        refine wpF_region rfl ?_   -- R9
        obtain ⟨e, he, hr⟩ := strangeWant (k := k) hne hlt (offW_or hc67)
        refine wpO_val rfl (x_moveP rfl) ?_
        refine wpO_val rfl (x_moveI rfl) ?_
        refine wpO_val rfl (x_load1V ((k : Key).v) Tryz.isAgg27 Tryz.sizeOf27 rfl (H.getF 0 rfl) (by kernel_rfl) (by kernel_rfl)) ?_
        refine wpO_val rfl (x_buildSt stMessage [.int .u8 1, (k : Key).v] rfl (cs := (({ Msg.zero with kind := (IK.lit .u8 1), key := (k : Key) } : Msg).v).cells) (by kernel_rfl)) ?_
        refine wpO_eff rfl (e_callF (vs := [.pointer (some ⟨b33, 0, none⟩), (fr : IK .u8).v, (mWant k).v]) Tryz.call11 rfl ((hearS_i fr (mWant k) hr H 2 rfl).mono (Ret.mono ?_)))
        rintro v73 w ⟨s73, g73, rfl, hle73, hs73, H⟩
        refine wpO_val rfl (x_moveT rfl) ?_
        refine wpO_val rfl (x_extractL rfl rfl) ?_
        refine wpO_val rfl (x_extractI rfl rfl) ?_
        refine wpO_val rfl (x_assignL rfl) ?_
        refine wpO_val rfl (x_assignI rfl) ?_
        refine wpO_nil ?_
        refine wpF_seq ?_
        refine wpF_region rfl ?_   -- R10
        refine wpO_val rfl (x_moveI rfl) ?_
        refine wpO_val rfl (x_cmp rfl rfl rfl rfl) ?_
        refine wpO_val rfl (x_moveB rfl) ?_
        refine wpO_is (z := false) 78 rfl rfl ?_
        refine wpO_val rfl (x_moveL rfl) ?_
        refine wpO_val rfl (x_lenSl Tryz.underlying47 rfl) ?_
        refine wpO_val rfl (x_cmp rfl rfl rfl rfl) ?_
        refine wpO_val rfl (x_pickB rfl rfl) ?_
        refine wpO_val rfl (x_moveB rfl) ?_
        refine wpO_is (z := false) 83 rfl (by rw [hs73.len]; rfl) ?_
        refine wpO_val rfl (x_moveL rfl) ?_
        refine wpO_val rfl (x_indexEl hs73 Tryz.underlying47 Tryz.sizeOf53 rfl rfl (by decide) (by simp)) ?_
        refine wpO_val rfl (x_fieldAddr Tryz.underlying53 rfl Tryz.sizeOf5 rfl) ?_
        refine wpO_val rfl (x_loadElF (o := 0) Tryz.isAgg5 hs73 H rfl rfl rfl rfl) ?_
        refine wpO_val rfl (x_moveI rfl) ?_
        refine wpO_val rfl (x_cmp rfl rfl rfl rfl) ?_
        refine wpO_val rfl (x_pickB rfl rfl) ?_
        refine wpO_val rfl (x_moveB rfl) ?_
        refine wpO_is (z := false) 91 rfl (by simp) ?_
        refine wpO_val rfl (x_moveL rfl) ?_
        refine wpO_val rfl (x_indexEl hs73 Tryz.underlying47 Tryz.sizeOf53 rfl rfl (by decide) (by simp)) ?_
        refine wpO_val rfl (x_fieldAddr Tryz.underlying53 rfl Tryz.sizeOf51 rfl) ?_
        refine wpO_val rfl (x_fieldAddr Tryz.underlying51 rfl Tryz.sizeOf5 rfl) ?_
        refine wpO_val rfl (x_loadElF (o := 1) Tryz.isAgg5 hs73 H rfl rfl rfl rfl) ?_
        refine wpO_val rfl (x_cmp rfl rfl rfl rfl) ?_
        refine wpO_val rfl (x_pickB rfl rfl) ?_
        refine wpO_val rfl (x_moveB rfl) ?_
        refine wpO_is (z := false) 99 rfl rfl ?_
        refine wpO_val rfl (x_moveL rfl) ?_
        refine wpO_val rfl (x_indexEl hs73 Tryz.underlying47 Tryz.sizeOf53 rfl rfl (by decide) (by simp)) ?_
        refine wpO_val rfl (x_fieldAddr Tryz.underlying53 rfl Tryz.sizeOf51 rfl) ?_
        refine wpO_val rfl (x_fieldAddr Tryz.underlying51 rfl Tryz.sizeOf44 rfl) ?_
        refine wpO_val rfl (x_loadElF (o := 12) Tryz.isAgg44 hs73 H rfl rfl rfl rfl) ?_
        refine wpO_val rfl (x_cmp rfl rfl rfl rfl) ?_
        refine wpO_val rfl (x_pickB rfl rfl) ?_
        refine wpO_val rfl (x_moveB rfl) ?_
        refine wpO_is (z := false) 107 rfl (by simpa [mRefuse] using he) ?_
        refine wpO_val rfl (x_moveP rfl) ?_
        refine wpO_val rfl (x_moveP rfl) ?_
        refine wpO_eff rfl (e_callF (vs := [.pointer (some ⟨b33, 0, none⟩), .pointer (some ⟨b51, 0, none⟩)]) Tryz.call12 rfl ((same_i (hφ.mono hle73) (hφ2.mono hle73) H 2 2 rfl rfl).mono (Ret.mono ?_)))   -- of t108 t109
        rintro v110 w ⟨rfl, H⟩
        refine wpO_val rfl (x_not rfl) ?_
        refine wpO_val rfl (x_pickB rfl rfl) ?_
        refine wpO_nil ?_
        refine wpF_condF rfl (show (!(bkSame φ φ B B2)) = false by rw [hsame]; rfl) ?_
        refine wpF_skip ?_
        exact ⟨_, H.forget hle73, updL_eta ⟨rfl, rfl, rfl, rfl, rfl, rfl, rfl, trivial⟩⟩
      ·
        refine wpF_skip ?_
        exact ⟨_, H, updL_eta ⟨rfl, rfl, rfl, rfl, rfl, rfl, rfl, trivial⟩⟩
  · rintro f w ⟨f0, H, rfl⟩
    refine wpF_seq ?_
    refine wpF_cut (fun f w => ∃ f0, Holds c g w ([pt b9 (.cells k.v.cells 27), pt b11 (.cells c0.v.cells 34), bookA b33 B, bookA b51 B2, pt b16 (.cells ((kget B.owns k).getD Own.zero).v.cells 43)] ++ F) ∧ f = updL f0 [(4, (fr : IK .u8).v), (9, .pointer (some ⟨b9, 0, none⟩)), (11, .pointer (some ⟨b11, 0, none⟩)), (13, .pointer (some ⟨b33, 0, none⟩)), (15, .pointer (some ⟨b51, 0, none⟩)), (16, .pointer (some ⟨b16, 0, none⟩)), (17, .int .i64 (if (kget B.owns k).isSome then 0 else 4))]) ?_ ?_   -- join if R12
    ·
      refine wpF_seq ?_
      refine wpF_region rfl ?_   -- R12
      refine wpO_val rfl (x_fieldAddrN Tryz.underlying27 rfl Tryz.sizeOf25 rfl rfl) ?_
      refine wpO_val rfl (x_fieldAddrN Tryz.underlying25 rfl Tryz.sizeOf5 rfl rfl) ?_
      refine wpO_val rfl (x_load0bI Tryz.isAgg5 rfl (H.getF 0 rfl) rfl) ?_
      refine wpO_val rfl (x_moveI rfl) ?_
      refine wpO_val rfl (x_cmp rfl rfl rfl rfl) ?_
      refine wpO_nil ?_
      refine wpF_cond _ rfl (fun hc117 => ?_) (fun hc117 => ?_)
      ·
        refine wpF_seq ?_
        refine wpF_region rfl ?_   -- R13
        have hk : k.t.car.n ≠ fr.n := by simpa using hc117
        have hr1 := strangeGrant (B := B) c0 hne hlt hk
        have hr2 := strangeRecall (B := B) hne hlt hk
        refine wpO_val rfl (x_moveP rfl) ?_
        refine wpO_val rfl (x_moveI rfl) ?_
        refine wpO_val rfl (x_load1V ((k : Key).v) Tryz.isAgg27 Tryz.sizeOf27 rfl (H.getF 0 rfl) (by kernel_rfl) (by kernel_rfl)) ?_
        refine wpO_val rfl (x_load1V ((c0 : Coupon).v) Tryz.isAgg34 Tryz.sizeOf34 rfl (H.getF 1 rfl) (by kernel_rfl) (by kernel_rfl)) ?_
        refine wpO_val rfl (x_buildSt stMessage [.int .u8 2, (k : Key).v, (c0 : Coupon).v] rfl (cs := (({ Msg.zero with kind := (IK.lit .u8 2), key := (k : Key), c := (c0 : Coupon) } : Msg).v).cells) (by kernel_rfl)) ?_
        refine wpO_eff rfl (e_callF (vs := [.pointer (some ⟨b33, 0, none⟩), (fr : IK .u8).v, (mGrant k c0).v]) Tryz.call11 rfl ((hearS_i fr (mGrant k c0) hr1 H 2 rfl).mono (Ret.mono ?_)))
        rintro v124 w ⟨s124, g124, rfl, hle124, hs124, H⟩
        refine wpO_val rfl (x_moveT rfl) ?_
        refine wpO_val rfl (x_extractL rfl rfl) ?_
        refine wpO_val rfl (x_extractI rfl rfl) ?_
        refine wpO_val rfl (x_assignL rfl) ?_
        refine wpO_val rfl (x_assignI rfl) ?_
        refine wpO_nil ?_
        refine wpF_seq ?_
        refine wpF_region rfl ?_   -- R14
        refine wpO_val rfl (x_moveP rfl) ?_
        refine wpO_val rfl (x_moveI rfl) ?_
        refine wpO_val rfl (x_load1V ((k : Key).v) Tryz.isAgg27 Tryz.sizeOf27 rfl (H.getF 0 rfl) (by kernel_rfl) (by kernel_rfl)) ?_
        refine wpO_val rfl (x_buildSt stMessage [.int .u8 4, (k : Key).v] rfl (cs := (({ Msg.zero with kind := (IK.lit .u8 4), key := (k : Key) } : Msg).v).cells) (by kernel_rfl)) ?_
        refine wpO_eff rfl (e_callF (vs := [.pointer (some ⟨b33, 0, none⟩), (fr : IK .u8).v, (mRecall k).v]) Tryz.call11 rfl ((hearS_i fr (mRecall k) hr2 H 2 rfl).mono (Ret.mono ?_)))
        rintro v132 w ⟨s132, g132, rfl, hle132, hs132, H⟩
        refine wpO_val rfl (x_moveT rfl) ?_
        refine wpO_val rfl (x_extractL rfl rfl) ?_
        refine wpO_val rfl (x_extractI rfl rfl) ?_
        refine wpO_val rfl (x_assignL rfl) ?_
        refine wpO_val rfl (x_assignI rfl) ?_
        refine wpO_nil ?_
        refine wpF_seq ?_
        refine wpF_region rfl ?_   -- R15
        refine wpO_val rfl (x_moveI rfl) ?_
        refine wpO_val rfl (x_cmp rfl rfl rfl rfl) ?_
        refine wpO_val rfl (x_moveB rfl) ?_
        refine wpO_is (z := false) 137 rfl rfl ?_
        refine wpO_val rfl (x_moveI rfl) ?_
        refine wpO_val rfl (x_cmp rfl rfl rfl rfl) ?_
        refine wpO_val rfl (x_pickB rfl rfl) ?_
        refine wpO_val rfl (x_moveB rfl) ?_
        refine wpO_is (z := false) 141 rfl rfl ?_
        refine wpO_val rfl (x_moveL rfl) ?_
        refine wpO_val rfl (x_lenSl Tryz.underlying47 rfl) ?_
        refine wpO_val rfl (x_cmp rfl rfl rfl rfl) ?_
        refine wpO_val rfl (x_pickB rfl rfl) ?_
        refine wpO_val rfl (x_moveB rfl) ?_
        refine wpO_is (z := false) 146 rfl (by rw [hs124.len]; rfl) ?_
        refine wpO_val rfl (x_moveL rfl) ?_
        refine wpO_val rfl (x_lenSl Tryz.underlying47 rfl) ?_
        refine wpO_val rfl (x_cmp rfl rfl rfl rfl) ?_
        refine wpO_val rfl (x_pickB rfl rfl) ?_
        refine wpO_val rfl (x_moveB rfl) ?_
        refine wpO_is (z := false) 151 rfl (by rw [hs132.len]; rfl) ?_
        refine wpO_val rfl (x_moveP rfl) ?_
        refine wpO_val rfl (x_moveP rfl) ?_
        refine wpO_eff rfl (e_callF (vs := [.pointer (some ⟨b33, 0, none⟩), .pointer (some ⟨b51, 0, none⟩)]) Tryz.call12 rfl ((same_i (hφ.mono (hle124.trans hle132)) (hφ2.mono (hle124.trans hle132)) H 2 2 rfl rfl).mono (Ret.mono ?_)))   -- of t152 t153
        rintro v154 w ⟨rfl, H⟩
        refine wpO_val rfl (x_not rfl) ?_
        refine wpO_val rfl (x_pickB rfl rfl) ?_
        refine wpO_nil ?_
        refine wpF_condF rfl (show (!(bkSame φ φ B B2)) = false by rw [hsame]; rfl) ?_
        refine wpF_skip ?_
        exact ⟨_, (H.forget hle132).forget hle124, updL_eta ⟨rfl, rfl, rfl, rfl, rfl, rfl, rfl, trivial⟩⟩
      ·
        refine wpF_skip ?_
        exact ⟨_, H, updL_eta ⟨rfl, rfl, rfl, rfl, rfl, rfl, rfl, trivial⟩⟩
    · rintro f w ⟨f0, H, rfl⟩
      refine wpF_seq ?_
      refine wpF_cut (fun f w => ∃ f0, Holds c g w ([pt b9 (.cells k.v.cells 27), pt b11 (.cells c0.v.cells 34), bookA b33 B, bookA b51 B2, pt b16 (.cells ((kget B.owns k).getD Own.zero).v.cells 43)] ++ F) ∧ f = updL f0 []) ?_ ?_   -- join if R17
      ·
        refine wpF_seq ?_
        refine wpF_cut (fun f w => ∃ f0, Holds c g w ([pt b9 (.cells k.v.cells 27), pt b11 (.cells c0.v.cells 34), bookA b33 B, bookA b51 B2, pt b16 (.cells ((kget B.owns k).getD Own.zero).v.cells 43)] ++ F) ∧ f = updL f0 [(4, (fr : IK .u8).v), (9, .pointer (some ⟨b9, 0, none⟩)), (11, .pointer (some ⟨b11, 0, none⟩)), (13, .pointer (some ⟨b33, 0, none⟩)), (15, .pointer (some ⟨b51, 0, none⟩)), (169, .bool (offR B k fr))]) ?_ ?_   -- join R17
        ·
          refine wpF_region rfl ?_   -- R17
          refine wpO_val rfl (x_moveI rfl) ?_
          refine wpO_val rfl (x_cmp rfl rfl rfl rfl) ?_
          refine wpO_val rfl (x_moveB rfl) ?_
          refine wpO_split 159 rfl (fun hb159 => ?_) (fun hb159 => ?_)
          ·
            refine wpO_not rfl ?_
            refine wpO_not rfl ?_
            refine wpO_not rfl ?_
            refine wpO_val rfl (x_pickB rfl rfl) ?_
            refine wpO_val rfl (x_moveB rfl) ?_
            refine wpO_not rfl ?_
            refine wpO_not rfl ?_
            refine wpO_not rfl ?_
            refine wpO_not rfl ?_
            refine wpO_val rfl (x_pickB rfl rfl) ?_
            refine wpO_nil ?_
            exact ⟨_, H, updL_eta ⟨rfl, rfl, rfl, rfl, rfl, congrArg Value.bool (by cases h : (kget B.owns k).isSome <;> simp [offR, h] at hb159 ⊢), trivial⟩⟩
          ·
            refine wpO_val rfl (x_fieldAddrN Tryz.underlying43 rfl Tryz.sizeOf4 rfl rfl) ?_
            refine wpO_val rfl (x_load0bB Tryz.isAgg4 rfl (H.getF 4 rfl) rfl) ?_
            refine wpO_val rfl (x_not rfl) ?_
            refine wpO_val rfl (x_pickB rfl rfl) ?_
            refine wpO_val rfl (x_moveB rfl) ?_
            refine wpO_split 164 rfl (fun hb164 => ?_) (fun hb164 => ?_)
            ·
              refine wpO_not rfl ?_
              refine wpO_not rfl ?_
              refine wpO_not rfl ?_
              refine wpO_not rfl ?_
              refine wpO_val rfl (x_pickB rfl rfl) ?_
              refine wpO_nil ?_
              exact ⟨_, H, updL_eta ⟨rfl, rfl, rfl, rfl, rfl, congrArg Value.bool (by cases h : (kget B.owns k).isSome <;> simp [offR, h] at hb159 hb164 ⊢ <;> simp [hb164]), trivial⟩⟩
            ·
              refine wpO_val rfl (x_fieldAddrN Tryz.underlying43 rfl Tryz.sizeOf5 rfl rfl) ?_
              refine wpO_val rfl (x_load0bI Tryz.isAgg5 rfl (H.getF 4 rfl) rfl) ?_
              refine wpO_val rfl (x_moveI rfl) ?_
              refine wpO_val rfl (x_cmp rfl rfl rfl rfl) ?_
              refine wpO_val rfl (x_pickB rfl rfl) ?_
              refine wpO_nil ?_
              exact ⟨_, H, updL_eta ⟨rfl, rfl, rfl, rfl, rfl, congrArg Value.bool (by cases h : (kget B.owns k).isSome <;> simp [offR, h] at hb159 hb164 ⊢ <;> simp [hb164]), trivial⟩⟩
        · rintro f w ⟨f0, H, rfl⟩
          refine wpF_cond _ rfl (fun hc169 => ?_) (fun hc169 => ?_)
          ·
            refine wpF_seq ?_
            refine wpF_region rfl ?_   -- R18
            have hr3 := strangeReturn (B := B) c0 hne hlt (offR_or hc169)
            refine wpO_val rfl (x_moveP rfl) ?_
            refine wpO_val rfl (x_moveI rfl) ?_
            refine wpO_val rfl (x_load1V ((k : Key).v) Tryz.isAgg27 Tryz.sizeOf27 rfl (H.getF 0 rfl) (by kernel_rfl) (by kernel_rfl)) ?_
            refine wpO_val rfl (x_load1V ((c0 : Coupon).v) Tryz.isAgg34 Tryz.sizeOf34 rfl (H.getF 1 rfl) (by kernel_rfl) (by kernel_rfl)) ?_
            refine wpO_val rfl (x_buildSt stMessage [.int .u8 5, (k : Key).v, (c0 : Coupon).v] rfl (cs := (({ Msg.zero with kind := (IK.lit .u8 5), key := (k : Key), c := (c0 : Coupon) } : Msg).v).cells) (by kernel_rfl)) ?_
            refine wpO_eff rfl (e_callF (vs := [.pointer (some ⟨b33, 0, none⟩), (fr : IK .u8).v, (mReturn k c0).v]) Tryz.call11 rfl ((hearS_i fr (mReturn k c0) hr3 H 2 rfl).mono (Ret.mono ?_)))
            rintro v176 w ⟨s176, g176, rfl, hle176, hs176, H⟩
            refine wpO_val rfl (x_moveT rfl) ?_
            refine wpO_val rfl (x_extractL rfl rfl) ?_
            refine wpO_val rfl (x_extractI rfl rfl) ?_
            refine wpO_val rfl (x_assignL rfl) ?_
            refine wpO_val rfl (x_assignI rfl) ?_
            refine wpO_nil ?_
            refine wpF_seq ?_
            refine wpF_region rfl ?_   -- R19
            refine wpO_val rfl (x_moveI rfl) ?_
            refine wpO_val rfl (x_cmp rfl rfl rfl rfl) ?_
            refine wpO_val rfl (x_moveB rfl) ?_
            refine wpO_is (z := false) 181 rfl rfl ?_
            refine wpO_val rfl (x_moveL rfl) ?_
            refine wpO_val rfl (x_lenSl Tryz.underlying47 rfl) ?_
            refine wpO_val rfl (x_cmp rfl rfl rfl rfl) ?_
            refine wpO_val rfl (x_pickB rfl rfl) ?_
            refine wpO_val rfl (x_moveB rfl) ?_
            refine wpO_is (z := false) 186 rfl (by rw [hs176.len]; rfl) ?_
            refine wpO_val rfl (x_moveP rfl) ?_
            refine wpO_val rfl (x_moveP rfl) ?_
            refine wpO_eff rfl (e_callF (vs := [.pointer (some ⟨b33, 0, none⟩), .pointer (some ⟨b51, 0, none⟩)]) Tryz.call12 rfl ((same_i (hφ.mono hle176) (hφ2.mono hle176) H 2 2 rfl rfl).mono (Ret.mono ?_)))   -- of t187 t188
            rintro v189 w ⟨rfl, H⟩
            refine wpO_val rfl (x_not rfl) ?_
            refine wpO_val rfl (x_pickB rfl rfl) ?_
            refine wpO_nil ?_
            refine wpF_condF rfl (show (!(bkSame φ φ B B2)) = false by rw [hsame]; rfl) ?_
            refine wpF_skip ?_
            exact ⟨_, H.forget hle176, updL_eta trivial⟩
          ·
            refine wpF_skip ?_
            exact ⟨_, H, updL_eta trivial⟩
      · rintro f w ⟨f0, H, rfl⟩
        refine wpF_seq ?_
        refine wpF_region rfl ?_   -- R21
        refine wpO_eff rfl (e_callF (vs := []) Tryz.call7 rfl ((wakes16_c H).mono (Ret.mono ?_)))   -- of 
        rintro v192 w ⟨rfl, H⟩
        refine wpO_val rfl (x_assignB rfl) ?_
        refine wpO_nil ?_
        refine wpF_ret ?_
        repeat (with_reducible first | refine thenF_r ?_ | refine inBlockF_r ?_)
        refine end_t rfl rfl ?_   -- tmp:12
        exact ⟨rfl, (H.forget hle0).sel [] 5 rfl rfl⟩
-- >> hsYes_c
-- << hsGreat_c
theorem hsGreat_c {c : Cx} {g0 : Heap} {w : World} {F : List Asn} {self : IK .u8} {nn : IK .i64} {s : Sl} {xs : List BAct} {k : Key} {fr : IK .u8} {c0 : Coupon} (hgood : ¬ GoodActs xs) (hs : SlR g0 BAct.v 46 s xs) (H : Holds c g0 w F) :
    Calls Tryz.prog 3 #[self.v, nn.v, s.v, k.v, fr.v, c0.v] w (Ret fun v w' => v = .bool true ∧ Holds c g0 w' F) := by
  have H : Holds c g0 w ([] ++ F) := H
  -- tarmac/tarmaclaw16.HandoverStranger  (function 3; params ['5', '3', '22', '27', '5', '34']; results tmp:12; ntmps 193)
  refine calls_of_wpF Tryz.func3 rfl Tryz.ntmps3 rfl ?_
  refine wpF_seq ?_
  refine wpF_region rfl ?_   -- R0
  refine wpO_eff rfl (e_boxA H rfl fun b9 w H => ?_)
  refine wpO_eff rfl (e_boxA H rfl fun b11 w H => ?_)
  refine wpO_val rfl (x_assignB rfl) ?_
  refine wpO_nil ?_
  refine wpF_seq ?_
  refine wpF_seq ?_
  refine wpF_region rfl ?_   -- R1
  refine wpO_val rfl (x_moveL rfl) ?_
  refine wpO_eff rfl (e_callF (vs := [s.v, Sl.nil.v]) Tryz.call6 rfl ((greatT_c hgood hs H).mono (Ret.mono ?_)))   -- of t26 ('app', 'Go.Value.slice', [('app', 'none', []), ('num', 0),
  rintro v27 w ⟨rfl, H⟩
  refine wpO_nil ?_
  refine wpF_condT rfl rfl ?_
  refine wpF_seq ?_
  refine wpF_region rfl ?_   -- R2
  refine wpO_eff rfl (e_callF (vs := []) Tryz.call7 rfl ((wakes16_c H).mono (Ret.mono ?_)))   -- of 
  rintro v28 w ⟨rfl, H⟩
  refine wpO_val rfl (x_assignB rfl) ?_
  refine wpO_nil ?_
  refine wpF_ret ?_
  repeat (with_reducible first | refine thenF_r ?_ | refine inBlockF_r ?_)
  refine end_t rfl rfl ?_   -- tmp:12
  exact ⟨rfl, H.sel [] 2 rfl rfl⟩
-- >> hsGreat_c
-- << hsNo_c
theorem hsNo_c {c : Cx} {g0 : Heap} {w : World} {F : List Asn} {self : IK .u8} {nn : IK .i64} {s : Sl} {xs : List BAct} {k : Key} {fr : IK .u8} {c0 : Coupon} (h0 : newOk self nn = false) (hgood : GoodActs xs) (hs : SlR g0 BAct.v 46 s xs) (H : Holds c g0 w F) :
    Calls Tryz.prog 3 #[self.v, nn.v, s.v, k.v, fr.v, c0.v] w (Ret fun v w' => v = .bool true ∧ Holds c g0 w' F) := by
  have H : Holds c g0 w ([] ++ F) := H
  -- tarmac/tarmaclaw16.HandoverStranger  (function 3; params ['5', '3', '22', '27', '5', '34']; results tmp:12; ntmps 193)
  refine calls_of_wpF Tryz.func3 rfl Tryz.ntmps3 rfl ?_
  refine wpF_seq ?_
  refine wpF_region rfl ?_   -- R0
  refine wpO_eff rfl (e_boxA H rfl fun b9 w H => ?_)
  refine wpO_eff rfl (e_boxA H rfl fun b11 w H => ?_)
  refine wpO_val rfl (x_assignB rfl) ?_
  refine wpO_nil ?_
  refine wpF_seq ?_
  refine wpF_seq ?_
  refine wpF_region rfl ?_   -- R1
  refine wpO_val rfl (x_moveL rfl) ?_
  refine wpO_eff rfl (e_callF (vs := [s.v, Sl.nil.v]) Tryz.call6 rfl ((greatF_c hgood hs H).mono (Ret.mono ?_)))   -- of t26 ('app', 'Go.Value.slice', [('app', 'none', []), ('num', 0),
  rintro v27 w ⟨rfl, H⟩
  refine wpO_nil ?_
  refine wpF_condF rfl rfl ?_
  refine wpF_skip ?_
  refine wpF_seq ?_
  refine wpF_region rfl ?_   -- R3
  refine wpO_val rfl (x_moveI rfl) ?_
  refine wpO_val rfl (x_moveI rfl) ?_
  refine wpO_val rfl (x_moveL rfl) ?_
  refine wpO_eff rfl (e_callF (vs := [(self : IK .u8).v, (nn : IK .i64).v, s.v]) Tryz.call8 rfl ((builtNo_c h0 H).mono (Ret.mono ?_)))   -- of t30 t31 t32
  rintro v33 w ⟨rfl, H⟩
  refine wpO_val rfl (x_moveT rfl) ?_
  refine wpO_val rfl (x_extractP rfl rfl) ?_
  refine wpO_val rfl (x_extractP rfl rfl) ?_
  refine wpO_val rfl (x_assignP rfl) ?_
  refine wpO_val rfl (x_assignP rfl) ?_
  refine wpO_nil ?_
  refine wpF_seq ?_
  refine wpF_seq ?_
  refine wpF_region rfl ?_   -- R4
  refine wpO_val rfl (x_moveP rfl) ?_
  refine wpO_val rfl (x_eqlNil Tryz.underlying37 rfl rfl) ?_
  refine wpO_val rfl (x_moveB rfl) ?_
  refine wpO_is (z := true) 38 rfl rfl ?_
  refine wpO_not rfl ?_
  refine wpO_not rfl ?_
  refine wpO_not rfl ?_
  refine wpO_val rfl (x_pickB rfl rfl) ?_
  refine wpO_val rfl (x_moveB rfl) ?_
  refine wpO_not rfl ?_
  refine wpO_not rfl ?_
  refine wpO_not rfl ?_
  refine wpO_not rfl ?_
  refine wpO_val rfl (x_pickB rfl rfl) ?_
  refine wpO_nil ?_
  refine wpF_true rfl ?_
  refine wpF_seq ?_
  refine wpF_region rfl ?_   -- R5
  refine wpO_eff rfl (e_callF (vs := []) Tryz.call7 rfl ((wakes16_c H).mono (Ret.mono ?_)))   -- of 
  rintro v49 w ⟨rfl, H⟩
  refine wpO_val rfl (x_assignB rfl) ?_
  refine wpO_nil ?_
  refine wpF_ret ?_
  repeat (with_reducible first | refine thenF_r ?_ | refine inBlockF_r ?_)
  refine end_t rfl rfl ?_   -- tmp:12
  exact ⟨rfl, H.sel [] 2 rfl rfl⟩
-- >> hsNo_c
-- << hsSelf_c
theorem hsSelf_c {c : Cx} {g0 : Heap} {w : World} {F : List Asn} {self : IK .u8} {nn : IK .i64} {s : Sl} {xs : List BAct} {k : Key} {fr : IK .u8} {c0 : Coupon} (h0 : newOk self nn = true) (hgood : GoodActs xs) (hs : SlR g0 BAct.v 46 s xs) (hsales : ∀ x ∈ xs, ∃ legs taxes, SaleR g0 x.s legs taxes) (hfr1 : fr.n = self.n) (H : Holds c g0 w F) :
    Calls Tryz.prog 3 #[self.v, nn.v, s.v, k.v, fr.v, c0.v] w (Ret fun v w' => v = .bool true ∧ Holds c g0 w' F) := by
  have H : Holds c g0 w ([] ++ F) := H
  -- tarmac/tarmaclaw16.HandoverStranger  (function 3; params ['5', '3', '22', '27', '5', '34']; results tmp:12; ntmps 193)
  refine calls_of_wpF Tryz.func3 rfl Tryz.ntmps3 rfl ?_
  refine wpF_seq ?_
  refine wpF_region rfl ?_   -- R0
  refine wpO_eff rfl (e_boxA H rfl fun b9 w H => ?_)
  refine wpO_eff rfl (e_boxA H rfl fun b11 w H => ?_)
  refine wpO_val rfl (x_assignB rfl) ?_
  refine wpO_nil ?_
  refine wpF_seq ?_
  refine wpF_seq ?_
  refine wpF_region rfl ?_   -- R1
  refine wpO_val rfl (x_moveL rfl) ?_
  refine wpO_eff rfl (e_callF (vs := [s.v, Sl.nil.v]) Tryz.call6 rfl ((greatF_c hgood hs H).mono (Ret.mono ?_)))   -- of t26 ('app', 'Go.Value.slice', [('app', 'none', []), ('num', 0),
  rintro v27 w ⟨rfl, H⟩
  refine wpO_nil ?_
  refine wpF_condF rfl rfl ?_
  refine wpF_skip ?_
  refine wpF_seq ?_
  refine wpF_region rfl ?_   -- R3
  refine wpO_val rfl (x_moveI rfl) ?_
  refine wpO_val rfl (x_moveI rfl) ?_
  refine wpO_val rfl (x_moveL rfl) ?_
  refine wpO_eff rfl (e_callF (vs := [(self : IK .u8).v, (nn : IK .i64).v, s.v]) Tryz.call8 rfl ((builtYes_c h0 hs hgood.1 hgood.2 hsales H).mono (Ret.mono ?_)))   -- of t30 t31 t32
  rintro v33 w ⟨g1, b33, bw33, B, W, rfl, hle1, hB, H⟩
  have H : Holds c g1 w ([bookA b33 B, rbookA bw33 W, pt b9 (.cells k.v.cells 27), pt b11 (.cells c0.v.cells 34)] ++ F) := H
  replace H : Holds c g0 w ([] ++ F) := (H.forget hle1).sel [] 4 rfl rfl
  refine wpO_val rfl (x_moveT rfl) ?_
  refine wpO_val rfl (x_extractP rfl rfl) ?_
  refine wpO_val rfl (x_extractP rfl rfl) ?_
  refine wpO_val rfl (x_assignP rfl) ?_
  refine wpO_val rfl (x_assignP rfl) ?_
  refine wpO_nil ?_
  refine wpF_seq ?_
  refine wpF_seq ?_
  refine wpF_region rfl ?_   -- R4
  refine wpO_val rfl (x_moveP rfl) ?_
  refine wpO_val rfl (x_eqlNil Tryz.underlying37 rfl rfl) ?_
  refine wpO_val rfl (x_moveB rfl) ?_
  refine wpO_val rfl (x_moveI rfl) ?_
  refine wpO_val rfl (x_moveI rfl) ?_
  refine wpO_val rfl (x_cmp rfl rfl rfl rfl) ?_
  refine wpO_val rfl (x_pickB rfl rfl) ?_
  refine wpO_val rfl (x_moveB rfl) ?_
  refine wpO_is (z := true) 43 rfl (by simpa using hfr1) ?_
  refine wpO_not rfl ?_
  refine wpO_not rfl ?_
  refine wpO_not rfl ?_
  refine wpO_not rfl ?_
  refine wpO_val rfl (x_pickB rfl rfl) ?_
  refine wpO_nil ?_
  refine wpF_true rfl ?_
  refine wpF_seq ?_
  refine wpF_region rfl ?_   -- R5
  refine wpO_eff rfl (e_callF (vs := []) Tryz.call7 rfl ((wakes16_c H).mono (Ret.mono ?_)))   -- of 
  rintro v49 w ⟨rfl, H⟩
  refine wpO_val rfl (x_assignB rfl) ?_
  refine wpO_nil ?_
  refine wpF_ret ?_
  repeat (with_reducible first | refine thenF_r ?_ | refine inBlockF_r ?_)
  refine end_t rfl rfl ?_   -- tmp:12
  exact ⟨rfl, H⟩
-- >> hsSelf_c
-- << hsFar_c
theorem hsFar_c {c : Cx} {g0 : Heap} {w : World} {F : List Asn} {self : IK .u8} {nn : IK .i64} {s : Sl} {xs : List BAct} {k : Key} {fr : IK .u8} {c0 : Coupon} (h0 : newOk self nn = true) (hgood : GoodActs xs) (hs : SlR g0 BAct.v 46 s xs) (hsales : ∀ x ∈ xs, ∃ legs taxes, SaleR g0 x.s legs taxes) (hfr1 : fr.n ≠ self.n) (hfr2 : ¬ fr.n < nn.n) (H : Holds c g0 w F) :
    Calls Tryz.prog 3 #[self.v, nn.v, s.v, k.v, fr.v, c0.v] w (Ret fun v w' => v = .bool true ∧ Holds c g0 w' F) := by
  have H : Holds c g0 w ([] ++ F) := H
  -- tarmac/tarmaclaw16.HandoverStranger  (function 3; params ['5', '3', '22', '27', '5', '34']; results tmp:12; ntmps 193)
  refine calls_of_wpF Tryz.func3 rfl Tryz.ntmps3 rfl ?_
  refine wpF_seq ?_
  refine wpF_region rfl ?_   -- R0
  refine wpO_eff rfl (e_boxA H rfl fun b9 w H => ?_)
  refine wpO_eff rfl (e_boxA H rfl fun b11 w H => ?_)
  refine wpO_val rfl (x_assignB rfl) ?_
  refine wpO_nil ?_
  refine wpF_seq ?_
  refine wpF_seq ?_
  refine wpF_region rfl ?_   -- R1
  refine wpO_val rfl (x_moveL rfl) ?_
  refine wpO_eff rfl (e_callF (vs := [s.v, Sl.nil.v]) Tryz.call6 rfl ((greatF_c hgood hs H).mono (Ret.mono ?_)))   -- of t26 ('app', 'Go.Value.slice', [('app', 'none', []), ('num', 0),
  rintro v27 w ⟨rfl, H⟩
  refine wpO_nil ?_
  refine wpF_condF rfl rfl ?_
  refine wpF_skip ?_
  refine wpF_seq ?_
  refine wpF_region rfl ?_   -- R3
  refine wpO_val rfl (x_moveI rfl) ?_
  refine wpO_val rfl (x_moveI rfl) ?_
  refine wpO_val rfl (x_moveL rfl) ?_
  refine wpO_eff rfl (e_callF (vs := [(self : IK .u8).v, (nn : IK .i64).v, s.v]) Tryz.call8 rfl ((builtYes_c h0 hs hgood.1 hgood.2 hsales H).mono (Ret.mono ?_)))   -- of t30 t31 t32
  rintro v33 w ⟨g1, b33, bw33, B, W, rfl, hle1, hB, H⟩
  have H : Holds c g1 w ([bookA b33 B, rbookA bw33 W, pt b9 (.cells k.v.cells 27), pt b11 (.cells c0.v.cells 34)] ++ F) := H
  replace H : Holds c g0 w ([] ++ F) := (H.forget hle1).sel [] 4 rfl rfl
  refine wpO_val rfl (x_moveT rfl) ?_
  refine wpO_val rfl (x_extractP rfl rfl) ?_
  refine wpO_val rfl (x_extractP rfl rfl) ?_
  refine wpO_val rfl (x_assignP rfl) ?_
  refine wpO_val rfl (x_assignP rfl) ?_
  refine wpO_nil ?_
  refine wpF_seq ?_
  refine wpF_seq ?_
  refine wpF_region rfl ?_   -- R4
  refine wpO_val rfl (x_moveP rfl) ?_
  refine wpO_val rfl (x_eqlNil Tryz.underlying37 rfl rfl) ?_
  refine wpO_val rfl (x_moveB rfl) ?_
  refine wpO_val rfl (x_moveI rfl) ?_
  refine wpO_val rfl (x_moveI rfl) ?_
  refine wpO_val rfl (x_cmp rfl rfl rfl rfl) ?_
  refine wpO_val rfl (x_pickB rfl rfl) ?_
  refine wpO_val rfl (x_moveB rfl) ?_
  refine wpO_is (z := false) 43 rfl (by simpa using hfr1) ?_
  refine wpO_val rfl (x_moveI rfl) ?_
  refine wpO_val rfl (x_conv Tryz.underlying5 Tryz.underlying3 rfl) ?_
  refine wpO_val rfl (x_moveI rfl) ?_
  refine wpO_val rfl (x_cmp rfl rfl rfl rfl) ?_
  refine wpO_val rfl (x_pickB rfl rfl) ?_
  refine wpO_nil ?_
  refine wpF_condT rfl (by rw [w64 (by have := fr.u8; omega) (by have := fr.u8; omega)]; simpa using hfr2) ?_
  refine wpF_seq ?_
  refine wpF_region rfl ?_   -- R5
  refine wpO_eff rfl (e_callF (vs := []) Tryz.call7 rfl ((wakes16_c H).mono (Ret.mono ?_)))   -- of 
  rintro v49 w ⟨rfl, H⟩
  refine wpO_val rfl (x_assignB rfl) ?_
  refine wpO_nil ?_
  refine wpF_ret ?_
  repeat (with_reducible first | refine thenF_r ?_ | refine inBlockF_r ?_)
  refine end_t rfl rfl ?_   -- tmp:12
  exact ⟨rfl, H⟩
-- >> hsFar_c
end Go.Proofs.YtfoginganpgmcaaGreat
