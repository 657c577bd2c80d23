/- The laws of layer 16: what is known, what wakes, what is built. -/
import Derived.Test.YtfoginganpgmcaaGreatActs
set_option linter.unusedSimpArgs false
set_option linter.unusedVariables false
namespace Go.Proofs.YtfoginganpgmcaaGreat
open Go Go.Tw
set_option maxRecDepth 100000

theorem stLeg16 : StLaw Tryz.prog 31 [(0, 1), (1, 1), (2, 1)] Leg.zero.v.cells := fun parts => by kernel_rfl
theorem stSale16 : StLaw Tryz.prog 59 [(0, 1), (1, 1), (2, 1), (3, 1), (4, 1)] #[.string ByteArray.empty, .slice none 0 0, .int .i64 0, .slice none 0 0, .int .i64 0] := fun parts => by kernel_rfl
def knownS16 (sl : Sl) : SaleP := ⟨[68, 79, 69, 47, 74], sl, IK.lit .i64 101, Sl.nil, IK.lit .i64 20⟩
def knownL16 : List Leg := [{ Leg.zero with car := (IK.lit .u8 0), wt := (IK.lit .u32 1) }, { Leg.zero with car := (IK.lit .u8 1), wt := (IK.lit .u32 1) }]

-- << known16_c
theorem known16_c {c : Cx} {g : Heap} {w : World} {F : List Asn} (H : Holds c g w F) :
    Calls Tryz.prog 32 #[] w (Ret fun v w' => ∃ sl g', v = (knownS16 sl).v ∧ Le g g' ∧ SaleR g' (knownS16 sl) knownL16 [] ∧ Holds c g' w' F) := by
  have H : Holds c g w ([] ++ F) := H
  -- tarmac/tarmaclaw16.known  (function 32; params []; results cell:0 59; ntmps 5)
  refine calls_of_wpF Tryz.func32 rfl Tryz.ntmps32 rfl ?_
  refine wpF_seq ?_
  refine wpF_region rfl ?_   -- R0
  refine wpO_eff rfl (e_alloc H Tryz.zeroValue59 fun b0 w H => ?_)
  refine wpO_nil ?_
  refine wpF_seq ?_
  refine wpF_region rfl ?_   -- R1
  refine wpO_val rfl (x_buildSt stLeg16 [.int .u8 0, .int .u32 1] rfl (cs := (({ Leg.zero with car := (IK.lit .u8 0), wt := (IK.lit .u32 1) } : Leg).v).cells) (by kernel_rfl)) ?_
  refine wpO_val rfl (x_buildSt stLeg16 [.int .u8 1, .int .u32 1] rfl (cs := (({ Leg.zero with car := (IK.lit .u8 1), wt := (IK.lit .u32 1) } : Leg).v).cells) (by kernel_rfl)) ?_
  refine wpO_eff rfl (e_buildSlice H Tryz.underlying56 Tryz.sizeOf31 Tryz.zeroValue31 rfl rfl (vs := [({ Leg.zero with car := (IK.lit .u8 0), wt := (IK.lit .u32 1) } : Leg).v, ({ Leg.zero with car := (IK.lit .u8 1), wt := (IK.lit .u32 1) } : Leg).v]) (by kernel_rfl) (by kernel_rfl) (cs := knownL16.flatMap fun y => y.v.cells.toList) (by kernel_rfl) fun b3 w H => ?_)
  obtain ⟨g', hle, H, hs⟩ := Holds.sealLit (xs := knownL16) (enc := Leg.v) (m := 3) (H.sel [1, 0] 2 rfl rfl) rfl rfl (fun y hy => by simp [knownL16] at hy; rcases hy with rfl | rfl <;> rfl)
  refine wpO_val rfl (x_buildSt stSale16 [.string ⟨#[68, 79, 69, 47, 74]⟩, .slice (some ⟨b3, 0, none⟩) 2 2, .int .i64 101, .int .i64 20] rfl (cs := (knownS16 ⟨some ⟨b3, 0, none⟩, 2, 2⟩).v.cells) (by kernel_rfl)) ?_
  refine wpO_eff0 rfl (e_storeAll H 0 rfl Tryz.sizeOf59 rfl rfl rfl rfl rfl fun w H => ?_)
  refine wpO_nil ?_
  refine wpF_ret ?_
  repeat (with_reducible first | refine thenF_r ?_ | refine inBlockF_r ?_)
  refine end_c rfl rfl Tryz.isAgg59 Tryz.sizeOf59 (H.getF 0 rfl) rfl ?_   -- cell:0 59
  exact ⟨_, g', rfl, hle, ⟨hs, SlR.zero⟩, H.sel [] 1 rfl rfl⟩
-- >> known16_c

section
variable {c : Cx} {g : Heap} {w : World} {L F : List Asn}
theorem HearI.toRow {i b : Nat} {r : HR} {v : Value} (h : HearI c g L F i b r v w) : ∃ so g', v = .tuple #[so.v, .int .i64 r.e] ∧ Le g g' ∧ SlR g' Out.v 13 so r.outs ∧ Holds c g' w (L.set i (bookA b r.B) ++ F) := by
  obtain ⟨so, h1, _, H⟩ := h
  have H1 : Holds c g w (outsA so r.outs :: (L.set i (bookA b r.B) ++ F)) := H.perm (by rw [List.append_assoc]; exact List.perm_middle)
  obtain ⟨g', hle, H2, hs⟩ := Holds.sealRow (xs := r.outs) (enc := Out.v) (m := 13) H1 rfl (fun _ _ => rfl) (by decide)
  exact ⟨so, g', h1, hle, hs, H2⟩
theorem hearS_i {b : Nat} {B : Bk} (fr : IK .u8) (m : Msg) {r : HR} (hr : B.hear fr m = r) (H : Holds c g w (L ++ F)) (i : Nat) (hi : L[i]? = some (bookA b B)) :
    Calls Tryz.prog 11 #[.pointer (some ⟨b, 0, none⟩), fr.v, m.v] w (Ret fun v w' => ∃ so g', v = .tuple #[so.v, .int .i64 r.e] ∧ Le g g' ∧ SlR g' Out.v 13 so r.outs ∧ Holds c g' w' (L.set i (bookA b r.B) ++ F)) :=
  hr ▸ (hear_i fr m H i hi).mono (Ret.mono fun _ _ h => h.toRow)
theorem wantS_i {b : Nat} {B : Bk} (k : Key) {r : HR} (hr : B.want k = r) (H : Holds c g w (L ++ F)) (i : Nat) (hi : L[i]? = some (bookA b B)) :
    Calls Tryz.prog 33 #[.pointer (some ⟨b, 0, none⟩), k.v] w (Ret fun v w' => ∃ so g', v = .tuple #[so.v, .int .i64 r.e] ∧ Le g g' ∧ SlR g' Out.v 13 so r.outs ∧ Holds c g' w' (L.set i (bookA b r.B) ++ F)) :=
  hr ▸ (want_i k H i hi).mono (Ret.mono fun _ _ h => h.toRow)
end

/-! what is known of the waking -/
def wkT : Ticket := ⟨IK.lit .u8 0, IK.lit .u64 1⟩
def wkK : Key := ⟨wkT, IK.lit .u8 1⟩
def wkD (d : DocP) : DocP := { d with t := wkT }
def wkL0 : Leg := { Leg.zero with car := IK.lit .u8 0, wt := IK.lit .u32 1 }
def wkL1 : Leg := { Leg.zero with car := IK.lit .u8 1, wt := IK.lit .u32 1 }
def wkA (md mo mh : Nat) (d : DocP) (y0 y1 : IK .i64) : Bk := ⟨IK.lit .u8 0, IK.lit .i64 3, md, mo, mh, [(wkT, d)], [(⟨wkT, IK.lit .u8 0⟩, newOwn wkL0 y0), (wkK, newOwn wkL1 y1)], []⟩
def wkC (y1 : IK .i64) : Coupon := { (newOwn wkL1 y1).c with non := IK.lit .u32 1 }
def wkO (y1 : IK .i64) : Own := { newOwn wkL1 y1 with c := wkC y1, away := true, to := IK.lit .u8 1 }
def wkA2 (md mo mh : Nat) (d : DocP) (y0 y1 : IK .i64) : Bk := { wkA md mo mh d y0 y1 with owns := [(⟨wkT, IK.lit .u8 0⟩, newOwn wkL0 y0), (wkK, wkO y1)] }
def wkB (md mo mh : Nat) : Bk := Bk.new (IK.lit .u8 1) (IK.lit .i64 3) md mo mh
def wkB1 (md mo mh : Nat) : Bk := { wkB md mo mh with helds := [(wkK, { Held.zero with wanted := true })] }
def wkH (y1 : IK .i64) : Held := { Held.zero with c := wkC y1, here := true }
def wkB2 (md mo mh : Nat) (y1 : IK .i64) : Bk := { wkB md mo mh with helds := [(wkK, wkH y1)] }
theorem wk_want (md mo mh : Nat) : (wkB md mo mh).want wkK = ⟨wkB1 md mo mh, [⟨IK.lit .u8 0, mWant wkK⟩], 0⟩ := by kernel_rfl
theorem wk_hearA (md mo mh : Nat) (d : DocP) (y0 y1 : IK .i64) : (wkA md mo mh d y0 y1).hear (IK.lit .u8 1) (mWant wkK) = ⟨wkA2 md mo mh d y0 y1, [⟨IK.lit .u8 1, mGrant wkK (wkC y1)⟩], 0⟩ := by kernel_rfl
theorem wk_hearB (md mo mh : Nat) (y1 : IK .i64) : (wkB1 md mo mh).hear (IK.lit .u8 0) (mGrant wkK (wkC y1)) = ⟨wkB2 md mo mh y1, [], 0⟩ := by kernel_rfl
theorem wk_issueE (md mo mh : Nat) (sl : Sl) : (Bk.new (IK.lit .u8 0) (IK.lit .i64 3) md mo mh).issueE (knownS16 sl) knownL16 [] = 0 := by kernel_rfl
theorem wk_tick (md mo mh : Nat) : (Bk.new (IK.lit .u8 0) (IK.lit .i64 3) md mo mh).tick = wkT := by kernel_rfl
theorem wk_issued (md mo mh : Nat) (d : DocP) (y0 y1 : IK .i64) (hd : d.t = wkT) : (Bk.new (IK.lit .u8 0) (IK.lit .i64 3) md mo mh).issued d knownL16 [y0, y1] = wkA md mo mh d y0 y1 := by
  show ({ Bk.new (IK.lit .u8 0) (IK.lit .i64 3) md mo mh with docs := [(d.t, d)], owns := putN [] d.t knownL16 [y0, y1] 2 } : Bk) = _
  rw [hd]
  kernel_rfl
theorem two_of {α : Type} {ys : List α} (h : ys.length = 2) : ∃ a b, ys = [a, b] := by
  rcases ys with _ | ⟨a, _ | ⟨b, _ | ⟨d, r⟩⟩⟩ <;> simp at h
  exact ⟨a, b, rfl⟩
theorem wkIssue {c : Cx} {g : Heap} {w : World} {L F : List Asn} {b md mo mh : Nat} {sl : Sl} (hs : SaleR g (knownS16 sl) knownL16 []) (H : Holds c g w (L ++ F)) (i : Nat) (hi : L[i]? = some (bookA b (Bk.new (IK.lit .u8 0) (IK.lit .i64 3) md mo mh))) :
    Calls Tryz.prog 16 #[.pointer (some ⟨b, 0, none⟩), (knownS16 sl).v] w (Ret fun v w' => ∃ g' d y0 y1 d3, Le g g' ∧ v = .tuple #[DocP.v (wkD d3), .int .i64 0] ∧ Holds c g' w' (L.set i (bookA b (wkA md mo mh d y0 y1)) ++ F)) := by
  refine (issue_i (knownS16 sl) knownL16 [] hs (by simp [knownS16]) (by decide) (by decide) H i hi).mono (Ret.mono ?_)
  rintro v w ⟨g', hle, ⟨h0, _⟩ | ⟨_, d, d2, ys, hv, hn, hb, _, H⟩⟩
  · exact absurd (wk_issueE md mo mh sl) h0
  have hl : ys.length = 2 := by have := hn.len; simpa [knownL16] using this
  obtain ⟨y0, y1, rfl⟩ := two_of hl
  have hd : d.t = wkT := by rw [hn.eq]; exact wk_tick md mo mh
  have hd2 : d2.t = wkT := (congrArg DocP.t hb).trans hd
  rw [wk_issued md mo mh d y0 y1 hd] at H
  refine ⟨g', d, y0, y1, d2, hle, ?_, H⟩
  rw [hv]
  have : wkD d2 = d2 := by unfold wkD; rw [← hd2]
  rw [this]
def OkAct (x : BAct) : Prop := x.s.legs.len ≤ 20 ∧ x.s.taxes.len ≤ 20 ∧ x.s.name.length ≤ 200
def GoodActs (xs : List BAct) : Prop := xs.length ≤ 100 ∧ ∀ x ∈ xs, OkAct x
theorem all_take16 {α : Type} {p : α → Prop} {xs : List α} {k : Nat} (h : k < xs.length) (ha : ∀ x ∈ xs.take k, p x) (hp : p xs[k]) : ∀ x ∈ xs.take (k + 1), p x := by
  intro x hx
  rw [List.take_succ_eq_append_getElem h, List.mem_append] at hx
  rcases hx with hx | hx
  · exact ha x hx
  · simp at hx; subst hx; exact hp
-- << wakes16_c
theorem wakes16_c {c : Cx} {g : Heap} {w : World} {F : List Asn} (H : Holds c g w F) :
    Calls Tryz.prog 7 #[] w (Ret fun v w' => v = .bool true ∧ Holds c g w' F) := by
  have H0 := H
  have H : Holds c g w ([] ++ F) := H
  -- tarmac/tarmaclaw16.wakes  (function 7; params []; results tmp:0; ntmps 148)
  refine calls_of_wpF Tryz.func7 rfl Tryz.ntmps7 rfl ?_
  refine wpF_seq ?_
  refine wpF_region rfl ?_   -- R0
  refine wpO_val rfl (x_assignB rfl) ?_
  refine wpO_nil ?_
  refine wpF_seq ?_
  refine wpF_region rfl ?_   -- R1
  refine wpO_eff rfl (e_callF (vs := [.int .u8 0, .int .i64 3]) Tryz.call15 rfl ((newOk_i (IK.lit .u8 0) (IK.lit .i64 3) (by decide) H).mono (Ret.mono ?_)))   -- of ('app', 'Go.Value.int', [('app', 'Go.IntKind.u8', []), ('num ('app', 'Go.Value.int', [('app', 'Go.IntKind.i64', []), ('nu
  rintro v19 w ⟨b19, md19, mo19, mh19, rfl, H⟩
  refine wpO_val rfl (x_moveT rfl) ?_
  refine wpO_val rfl (x_extractP rfl rfl) ?_
  refine wpO_val rfl (x_extractI rfl rfl) ?_
  refine wpO_val rfl (x_assignP rfl) ?_
  refine wpO_val rfl (x_assignI rfl) ?_
  refine wpO_nil ?_
  refine wpF_seq ?_
  refine wpF_region rfl ?_   -- R2
  refine wpO_eff rfl (e_callF (vs := [.int .u8 1, .int .i64 3]) Tryz.call15 rfl ((newOk_i (IK.lit .u8 1) (IK.lit .i64 3) (by decide) H).mono (Ret.mono ?_)))   -- of ('app', 'Go.Value.int', [('app', 'Go.IntKind.u8', []), ('num ('app', 'Go.Value.int', [('app', 'Go.IntKind.i64', []), ('nu
  rintro v23 w ⟨b23, md23, mo23, mh23, rfl, H⟩
  refine wpO_val rfl (x_moveT rfl) ?_
  refine wpO_val rfl (x_extractP rfl rfl) ?_
  refine wpO_val rfl (x_extractI rfl rfl) ?_
  refine wpO_val rfl (x_assignP rfl) ?_
  refine wpO_val rfl (x_assignI rfl) ?_
  refine wpO_nil ?_
  refine wpF_seq ?_
  refine wpF_region rfl ?_   -- R3
  refine wpO_val rfl (x_moveP rfl) ?_
  refine wpO_eff rfl (e_callF (vs := []) Tryz.call32 rfl ((known16_c H).mono (Ret.mono ?_)))   -- of 
  rintro v28 w ⟨sl28, g28, rfl, hle28, hr28, H⟩
  refine wpO_eff rfl (e_callF (vs := [.pointer (some ⟨b19, 0, none⟩), (knownS16 sl28).v]) Tryz.call16 rfl ((wkIssue hr28 H 0 rfl).mono (Ret.mono ?_)))   -- of t27 t28
  rintro v29 w ⟨g2, d2, y0, y1, d3, hle2, rfl, H⟩
  refine wpO_val rfl (x_moveT rfl) ?_
  refine wpO_val rfl (x_extractA rfl rfl) ?_
  refine wpO_val rfl (x_extractI rfl rfl) ?_
  refine wpO_eff rfl (e_alloc H Tryz.zeroValue62 fun b5 w H => ?_)
  refine wpO_eff0 rfl (e_storeAll (v := (wkD d3).v) H 2 rfl Tryz.sizeOf62 rfl rfl rfl rfl (by kernel_rfl) fun w H => ?_)
  refine wpO_val rfl (x_assignI rfl) ?_
  refine wpO_nil ?_
  refine wpF_seq ?_
  refine wpF_region rfl ?_   -- R4
  refine wpO_val rfl (x_fieldAddrN Tryz.underlying62 rfl Tryz.sizeOf25 rfl rfl) ?_
  refine wpO_val rfl (x_load1V (((wkD d3).t).v) Tryz.isAgg25 Tryz.sizeOf25 rfl (H.getF 2 rfl) (by kernel_rfl) (by kernel_rfl)) ?_
  refine wpO_val rfl (x_buildSt stKey [((wkD d3).t).v, .int .u8 1] rfl (cs := ((⟨(wkD d3).t, (IK.lit .u8 1)⟩ : Key).v).cells) (by kernel_rfl)) ?_
  refine wpO_eff rfl (e_alloc H Tryz.zeroValue27 fun b7 w H => ?_)
  refine wpO_eff0 rfl (e_storeAll (v := (⟨(wkD d3).t, (IK.lit .u8 1)⟩ : Key).v) H 3 rfl Tryz.sizeOf27 rfl rfl rfl rfl (by kernel_rfl) fun w H => ?_)
  refine wpO_nil ?_
  refine wpF_seq ?_
  refine wpF_region rfl ?_   -- R5
  refine wpO_val rfl (x_moveP rfl) ?_
  refine wpO_val rfl (x_load1V ((⟨(wkD d3).t, (IK.lit .u8 1)⟩ : Key).v) Tryz.isAgg27 Tryz.sizeOf27 rfl (H.getF 3 rfl) (by kernel_rfl) (by kernel_rfl)) ?_
  refine wpO_eff rfl (e_callF (vs := [.pointer (some ⟨b23, 0, none⟩), (⟨(wkD d3).t, (IK.lit .u8 1)⟩ : Key).v]) Tryz.call33 rfl ((wantS_i wkK (wk_want md23 mo23 mh23) H 1 rfl).mono (Ret.mono ?_)))   -- of t36 t37
  rintro v38 w ⟨s38, g38, rfl, hle38, hs38, H⟩
  refine wpO_val rfl (x_moveT rfl) ?_
  refine wpO_val rfl (x_extractL rfl rfl) ?_
  refine wpO_val rfl (x_extractI rfl rfl) ?_
  refine wpO_val rfl (x_assignL rfl) ?_
  refine wpO_val rfl (x_assignI rfl) ?_
  refine wpO_nil ?_
  refine wpF_seq ?_
  refine wpF_seq ?_
  refine wpF_region rfl ?_   -- R6
  refine wpO_val rfl (x_moveI rfl) ?_
  refine wpO_val rfl (x_cmp rfl rfl rfl rfl) ?_
  refine wpO_val rfl (x_moveB rfl) ?_
  refine wpO_is (z := false) 43 rfl rfl ?_
  refine wpO_val rfl (x_moveI rfl) ?_
  refine wpO_val rfl (x_cmp rfl rfl rfl rfl) ?_
  refine wpO_val rfl (x_pickB rfl rfl) ?_
  refine wpO_val rfl (x_moveB rfl) ?_
  refine wpO_is (z := false) 47 rfl rfl ?_
  refine wpO_val rfl (x_moveL rfl) ?_
  refine wpO_val rfl (x_lenSl Tryz.underlying47 rfl) ?_
  refine wpO_val rfl (x_cmp rfl rfl rfl rfl) ?_
  refine wpO_val rfl (x_pickB rfl rfl) ?_
  refine wpO_val rfl (x_moveB rfl) ?_
  refine wpO_is (z := false) 52 rfl (by rw [hs38.len]; rfl) ?_
  refine wpO_val rfl (x_moveL rfl) ?_
  refine wpO_val rfl (x_indexEl hs38 Tryz.underlying47 Tryz.sizeOf53 rfl rfl (by decide) (by simp)) ?_
  refine wpO_val rfl (x_fieldAddr Tryz.underlying53 rfl Tryz.sizeOf5 rfl) ?_
  refine wpO_val rfl (x_loadElF (o := 0) Tryz.isAgg5 hs38 H rfl rfl rfl rfl) ?_
  refine wpO_val rfl (x_cmp rfl rfl rfl rfl) ?_
  refine wpO_val rfl (x_pickB rfl rfl) ?_
  refine wpO_nil ?_
  refine wpF_condF rfl rfl ?_
  refine wpF_skip ?_
  refine wpF_seq ?_
  refine wpF_region rfl ?_   -- R8
  refine wpO_val rfl (x_moveP rfl) ?_
  refine wpO_val rfl (x_moveL rfl) ?_
  refine wpO_val rfl (x_indexEl hs38 Tryz.underlying47 Tryz.sizeOf53 rfl rfl (by decide) (by simp)) ?_
  refine wpO_val rfl (x_fieldAddr Tryz.underlying53 rfl Tryz.sizeOf51 rfl) ?_
  refine wpO_val rfl (x_loadElG (o := 1) ((mWant wkK).v) Tryz.isAgg51 Tryz.sizeOf51 hs38 H rfl rfl rfl (by kernel_rfl)) ?_
  refine wpO_eff rfl (e_callF (vs := [.pointer (some ⟨b19, 0, none⟩), .int .u8 1, (mWant wkK).v]) Tryz.call11 rfl ((hearS_i (IK.lit .u8 1) (mWant wkK) (wk_hearA md19 mo19 mh19 d2 y0 y1) H 0 rfl).mono (Ret.mono ?_)))
  rintro v65 w ⟨s65, g65, rfl, hle65, hs65, H⟩
  refine wpO_val rfl (x_moveT rfl) ?_
  refine wpO_val rfl (x_extractL rfl rfl) ?_
  refine wpO_val rfl (x_extractI rfl rfl) ?_
  refine wpO_val rfl (x_assignL rfl) ?_
  refine wpO_val rfl (x_assignI rfl) ?_
  refine wpO_nil ?_
  refine wpF_seq ?_
  refine wpF_seq ?_
  refine wpF_region rfl ?_   -- R9
  refine wpO_val rfl (x_moveI rfl) ?_
  refine wpO_val rfl (x_cmp rfl rfl rfl rfl) ?_
  refine wpO_val rfl (x_moveB rfl) ?_
  refine wpO_is (z := false) 70 rfl rfl ?_
  refine wpO_val rfl (x_moveL rfl) ?_
  refine wpO_val rfl (x_lenSl Tryz.underlying47 rfl) ?_
  refine wpO_val rfl (x_cmp rfl rfl rfl rfl) ?_
  refine wpO_val rfl (x_pickB rfl rfl) ?_
  refine wpO_val rfl (x_moveB rfl) ?_
  refine wpO_is (z := false) 75 rfl (by rw [hs65.len]; rfl) ?_
  refine wpO_val rfl (x_moveL rfl) ?_
  refine wpO_val rfl (x_indexEl hs65 Tryz.underlying47 Tryz.sizeOf53 rfl rfl (by decide) (by simp)) ?_
  refine wpO_val rfl (x_fieldAddr Tryz.underlying53 rfl Tryz.sizeOf51 rfl) ?_
  refine wpO_val rfl (x_fieldAddr Tryz.underlying51 rfl Tryz.sizeOf5 rfl) ?_
  refine wpO_val rfl (x_loadElF (o := 1) Tryz.isAgg5 hs65 H rfl rfl rfl rfl) ?_
  refine wpO_val rfl (x_cmp rfl rfl rfl rfl) ?_
  refine wpO_val rfl (x_pickB rfl rfl) ?_
  refine wpO_val rfl (x_moveB rfl) ?_
  refine wpO_is (z := false) 83 rfl rfl ?_
  refine wpO_val rfl (x_moveL rfl) ?_
  refine wpO_val rfl (x_indexEl hs65 Tryz.underlying47 Tryz.sizeOf53 rfl rfl (by decide) (by simp)) ?_
  refine wpO_val rfl (x_fieldAddr Tryz.underlying53 rfl Tryz.sizeOf51 rfl) ?_
  refine wpO_val rfl (x_fieldAddr Tryz.underlying51 rfl Tryz.sizeOf34 rfl) ?_
  refine wpO_val rfl (x_fieldAddr Tryz.underlying34 rfl Tryz.sizeOf29 rfl) ?_
  refine wpO_val rfl (x_loadElF (o := 10) Tryz.isAgg29 hs65 H rfl rfl rfl rfl) ?_
  refine wpO_val rfl (x_cmp rfl rfl rfl rfl) ?_
  refine wpO_val rfl (x_pickB rfl rfl) ?_
  refine wpO_nil ?_
  refine wpF_condF rfl rfl ?_
  refine wpF_skip ?_
  refine wpF_seq ?_
  refine wpF_region rfl ?_   -- R11
  refine wpO_val rfl (x_moveP rfl) ?_
  refine wpO_val rfl (x_moveL rfl) ?_
  refine wpO_val rfl (x_indexEl hs65 Tryz.underlying47 Tryz.sizeOf53 rfl rfl (by decide) (by simp)) ?_
  refine wpO_val rfl (x_fieldAddr Tryz.underlying53 rfl Tryz.sizeOf51 rfl) ?_
  refine wpO_val rfl (x_loadElG (o := 1) ((mGrant wkK (wkC y1)).v) Tryz.isAgg51 Tryz.sizeOf51 hs65 H rfl rfl rfl (by kernel_rfl)) ?_
  refine wpO_eff rfl (e_callF (vs := [.pointer (some ⟨b23, 0, none⟩), .int .u8 0, (mGrant wkK (wkC y1)).v]) Tryz.call11 rfl ((hearS_i (IK.lit .u8 0) (mGrant wkK (wkC y1)) (wk_hearB md23 mo23 mh23 y1) H 1 rfl).mono (Ret.mono ?_)))
  rintro v98 w ⟨s98, g98, rfl, hle98, hs98, H⟩
  refine wpO_val rfl (x_moveT rfl) ?_
  refine wpO_val rfl (x_extractL rfl rfl) ?_
  refine wpO_val rfl (x_extractI rfl rfl) ?_
  refine wpO_val rfl (x_assignL rfl) ?_
  refine wpO_val rfl (x_assignI rfl) ?_
  refine wpO_nil ?_
  refine wpF_seq ?_
  refine wpF_region rfl ?_   -- R12
  refine wpO_val rfl (x_moveP rfl) ?_
  refine wpO_val rfl (x_load1V ((⟨(wkD d3).t, (IK.lit .u8 1)⟩ : Key).v) Tryz.isAgg27 Tryz.sizeOf27 rfl (H.getF 3 rfl) (by kernel_rfl) (by kernel_rfl)) ?_
  refine wpO_eff rfl (e_callF (vs := [.pointer (some ⟨b23, 0, none⟩), (⟨(wkD d3).t, (IK.lit .u8 1)⟩ : Key).v]) Tryz.call19 rfl ((held_i wkK H 1 rfl).mono (Ret.mono ?_)))   -- of t102 t103
  rintro v104 w ⟨rfl, H⟩
  refine wpO_val rfl (x_moveT rfl) ?_
  refine wpO_val rfl (x_extractA rfl rfl) ?_
  refine wpO_val rfl (x_extractI rfl rfl) ?_
  refine wpO_eff rfl (e_alloc H Tryz.zeroValue64 fun b14 w H => ?_)
  refine wpO_eff0 rfl (e_storeAll (v := (wkH y1).v) H 4 rfl Tryz.sizeOf64 rfl rfl rfl rfl (by kernel_rfl) fun w H => ?_)
  refine wpO_val rfl (x_assignI rfl) ?_
  refine wpO_nil ?_
  refine wpF_seq ?_
  refine wpF_region rfl ?_   -- R13
  refine wpO_val rfl (x_moveP rfl) ?_
  refine wpO_val rfl (x_load1V ((⟨(wkD d3).t, (IK.lit .u8 1)⟩ : Key).v) Tryz.isAgg27 Tryz.sizeOf27 rfl (H.getF 3 rfl) (by kernel_rfl) (by kernel_rfl)) ?_
  refine wpO_eff rfl (e_callF (vs := [.pointer (some ⟨b19, 0, none⟩), (⟨(wkD d3).t, (IK.lit .u8 1)⟩ : Key).v]) Tryz.call10 rfl ((own_i wkK H 0 rfl).mono (Ret.mono ?_)))   -- of t108 t109
  rintro v110 w ⟨rfl, H⟩
  refine wpO_val rfl (x_moveT rfl) ?_
  refine wpO_val rfl (x_extractA rfl rfl) ?_
  refine wpO_val rfl (x_extractI rfl rfl) ?_
  refine wpO_eff rfl (e_alloc H Tryz.zeroValue43 fun b16 w H => ?_)
  refine wpO_eff0 rfl (e_storeAll (v := (wkO y1).v) H 5 rfl Tryz.sizeOf43 rfl rfl rfl rfl (by kernel_rfl) fun w H => ?_)
  refine wpO_val rfl (x_assignI rfl) ?_
  refine wpO_nil ?_
  refine wpF_seq ?_
  refine wpF_region rfl ?_   -- R14
  refine wpO_val rfl (x_moveL rfl) ?_
  refine wpO_val rfl (x_lenSl Tryz.underlying47 rfl) ?_
  refine wpO_val rfl (x_cmp rfl rfl rfl rfl) ?_
  refine wpO_val rfl (x_moveB rfl) ?_
  refine wpO_is (z := true) 116 rfl (by rw [hs98.len]; rfl) ?_
  refine wpO_val rfl (x_moveI rfl) ?_
  refine wpO_val rfl (x_cmp rfl rfl rfl rfl) ?_
  refine wpO_val rfl (x_pickB rfl rfl) ?_
  refine wpO_val rfl (x_moveB rfl) ?_
  refine wpO_is (z := true) 120 rfl rfl ?_
  refine wpO_val rfl (x_moveI rfl) ?_
  refine wpO_val rfl (x_cmp rfl rfl rfl rfl) ?_
  refine wpO_val rfl (x_pickB rfl rfl) ?_
  refine wpO_val rfl (x_moveB rfl) ?_
  refine wpO_is (z := true) 124 rfl rfl ?_
  refine wpO_val rfl (x_fieldAddrN Tryz.underlying64 rfl Tryz.sizeOf4 rfl rfl) ?_
  refine wpO_val rfl (x_load0bB Tryz.isAgg4 rfl (H.getF 4 rfl) rfl) ?_
  refine wpO_val rfl (x_pickB rfl rfl) ?_
  refine wpO_val rfl (x_moveB rfl) ?_
  refine wpO_is (z := true) 128 rfl rfl ?_
  refine wpO_val rfl (x_moveI rfl) ?_
  refine wpO_val rfl (x_cmp rfl rfl rfl rfl) ?_
  refine wpO_val rfl (x_pickB rfl rfl) ?_
  refine wpO_val rfl (x_moveB rfl) ?_
  refine wpO_is (z := true) 132 rfl rfl ?_
  refine wpO_val rfl (x_fieldAddrN Tryz.underlying43 rfl Tryz.sizeOf4 rfl rfl) ?_
  refine wpO_val rfl (x_load0bB Tryz.isAgg4 rfl (H.getF 5 rfl) rfl) ?_
  refine wpO_val rfl (x_pickB rfl rfl) ?_
  refine wpO_val rfl (x_moveB rfl) ?_
  refine wpO_is (z := true) 136 rfl rfl ?_
  refine wpO_val rfl (x_fieldAddrN Tryz.underlying43 rfl Tryz.sizeOf5 rfl rfl) ?_
  refine wpO_val rfl (x_load0bI Tryz.isAgg5 rfl (H.getF 5 rfl) rfl) ?_
  refine wpO_val rfl (x_cmp rfl rfl rfl rfl) ?_
  refine wpO_val rfl (x_pickB rfl rfl) ?_
  refine wpO_val rfl (x_moveB rfl) ?_
  refine wpO_is (z := true) 141 rfl rfl ?_
  refine wpO_eff rfl (e_callF (vs := [.int .u8 5]) Tryz.call34 rfl ((mine_c (IK.lit .u8 5).n H).mono (Ret.mono ?_)))   -- of ('app', 'Go.Value.int', [('app', 'Go.IntKind.u8', []), ('num
  rintro v142 w ⟨rfl, H⟩
  refine wpO_val rfl (x_pickB rfl rfl) ?_
  refine wpO_val rfl (x_moveB rfl) ?_
  refine wpO_is (z := true) 144 rfl rfl ?_
  refine wpO_eff rfl (e_callF (vs := [.int .u8 6]) Tryz.call34 rfl ((mine_c (IK.lit .u8 6).n H).mono (Ret.mono ?_)))   -- of ('app', 'Go.Value.int', [('app', 'Go.IntKind.u8', []), ('num
  rintro v145 w ⟨rfl, H⟩
  refine wpO_val rfl (x_not rfl) ?_
  refine wpO_val rfl (x_pickB rfl rfl) ?_
  refine wpO_val rfl (x_assignB rfl) ?_
  refine wpO_nil ?_
  refine wpF_ret ?_
  repeat (with_reducible first | refine thenF_r ?_ | refine inBlockF_r ?_)
  refine end_t rfl rfl ?_   -- tmp:0
  have HH := ((((((H.forget hle98).forget hle65).forget hle38).forget hle2).forget hle28))
  exact ⟨rfl, HH.sel [] 6 rfl rfl⟩
-- >> wakes16_c
-- << great16_c
theorem great16_c {c : Cx} {g : Heap} {w : World} {F : List Asn} {s : Sl} {xs : List BAct} (hs : SlR g BAct.v 46 s xs) (H : Holds c g w F) :
    Calls Tryz.prog 6 #[s.v, Sl.nil.v] w (Ret fun v w' => (∃ b, v = .bool b ∧ (b = false → GoodActs xs) ∧ (b = true → ¬ GoodActs xs)) ∧ Holds c g w' F) := by
  have H : Holds c g w ([] ++ F) := H
  have hlen := hs.len
  -- tarmac/tarmaclaw16.great  (function 6; params ['22', '97']; results tmp:4; ntmps 48)
  refine calls_of_wpF Tryz.func6 rfl Tryz.ntmps6 rfl ?_
  refine wpF_seq ?_
  refine wpF_region rfl ?_   -- R0
  refine wpO_val rfl (x_assignB rfl) ?_
  refine wpO_nil ?_
  refine wpF_seq ?_
  refine wpF_seq ?_
  refine wpF_region rfl ?_   -- R1
  refine wpO_val rfl (x_moveL rfl) ?_
  refine wpO_val rfl (x_lenSl Tryz.underlying22 rfl) ?_
  refine wpO_val rfl (x_cmp rfl rfl rfl rfl) ?_
  refine wpO_val rfl (x_moveB rfl) ?_
  refine wpO_split 9 rfl (fun hb9 => ?_) (fun hb9 => ?_)
  ·
    refine wpO_not rfl ?_
    refine wpO_not rfl ?_
    refine wpO_not rfl ?_
    refine wpO_val rfl (x_pickB rfl rfl) ?_
    refine wpO_nil ?_
    refine wpF_true rfl ?_
    refine wpF_seq ?_
    refine wpF_region rfl ?_   -- R2
    refine wpO_val rfl (x_assignB rfl) ?_
    refine wpO_nil ?_
    refine wpF_ret ?_
    repeat (with_reducible first | refine thenF_r ?_ | refine inBlockF_r ?_)
    refine end_t rfl rfl ?_   -- tmp:4
    exact ⟨⟨true, rfl, fun h => (by cases h), fun _ ⟨h, _⟩ => by simp at hb9; omega⟩, H.sel [] 0 rfl rfl⟩
  ·
    refine wpO_val rfl (x_moveL rfl) ?_
    refine wpO_val rfl (x_lenSl Tryz.underlying97 rfl) ?_
    refine wpO_val rfl (x_cmp rfl rfl rfl rfl) ?_
    refine wpO_val rfl (x_pickB rfl rfl) ?_
    refine wpO_nil ?_
    refine wpF_cond _ rfl (fun hc13 => ?_) (fun hc13 => ?_)
    ·
      refine wpF_seq ?_
      refine wpF_region rfl ?_   -- R2
      refine wpO_val rfl (x_assignB rfl) ?_
      refine wpO_nil ?_
      refine wpF_ret ?_
      repeat (with_reducible first | refine thenF_r ?_ | refine inBlockF_r ?_)
      refine end_t rfl rfl ?_   -- tmp:4
      exact ⟨⟨true, rfl, fun h => (by cases h), fun _ _ => by simp [Sl.nil] at hc13⟩, H.sel [] 0 rfl rfl⟩
    ·
      refine wpF_skip ?_
      have hmax : xs.length ≤ 100 := by simp at hb9; omega
      refine wpF_seq ?_
      refine wpF_seq ?_
      refine wpF_region rfl ?_   -- R3
      refine wpO_val rfl (x_assignI rfl) ?_
      refine wpO_nil ?_
      refine wpF_block ?_   -- block 0
      refine wpF_loop (fun n f w => ∃ k f0, (k ≤ xs.length ∧ n = xs.length - k ∧ ∀ x ∈ xs.take k, OkAct x) ∧ Holds c g w ([] ++ F) ∧ f = updL f0 [(0, s.v), (5, .int .i64 (k : Nat))]) xs.length ?_ ?_
      · exact ⟨0, _, ⟨by omega, by omega, fun x h => by simp at h⟩, H, updL_eta ⟨rfl, rfl, trivial⟩⟩
      · rintro n f w ⟨k, f0, ⟨hk, hn, hall⟩, H, rfl⟩
        refine wpF_seq ?_
        refine wpF_seq ?_
        refine wpF_region rfl ?_   -- R4
        refine wpO_val rfl (x_moveI rfl) ?_
        refine wpO_val rfl (x_moveL rfl) ?_
        refine wpO_val rfl (x_lenSl Tryz.underlying22 rfl) ?_
        refine wpO_val rfl (x_cmp rfl rfl rfl rfl) ?_
        refine wpO_nil ?_
        refine wpF_cond _ rfl (fun hc17 => ?_) (fun hc17 => ?_)
        ·
          have hk' : k < xs.length := by rw [← hlen]; simpa using hc17
          refine wpF_skip ?_
          refine wpF_seq ?_
          refine wpF_block ?_   -- block 1
          refine wpF_seq ?_
          refine wpF_region rfl ?_   -- R6
          refine wpO_val rfl (x_moveL rfl) ?_
          refine wpO_val rfl (x_moveI rfl) ?_
          refine wpO_val rfl (x_indexEl hs Tryz.underlying22 Tryz.sizeOf66 rfl rfl (by omega) (by omega)) ?_
          refine wpO_val rfl (x_fieldAddr Tryz.underlying66 rfl Tryz.sizeOf59 rfl) ?_
          refine wpO_val rfl (x_fieldAddr Tryz.underlying59 rfl Tryz.sizeOf56 rfl) ?_
          refine wpO_val rfl (x_loadElF (o := 2) Tryz.isAgg56 hs H rfl (List.getElem?_eq_getElem hk') rfl rfl) ?_
          refine wpO_val rfl (x_lenSl Tryz.underlying56 rfl) ?_
          refine wpO_val rfl (x_cmp rfl rfl rfl rfl) ?_
          refine wpO_val rfl (x_moveB rfl) ?_
          refine wpO_split 28 rfl (fun hb28 => ?_) (fun hb28 => ?_)
          ·
            refine wpO_not rfl ?_
            refine wpO_not rfl ?_
            refine wpO_not rfl ?_
            refine wpO_not rfl ?_
            refine wpO_not rfl ?_
            refine wpO_not rfl ?_
            refine wpO_not rfl ?_
            refine wpO_not rfl ?_
            refine wpO_val rfl (x_pickB rfl rfl) ?_
            refine wpO_val rfl (x_moveB rfl) ?_
            refine wpO_not rfl ?_
            refine wpO_not rfl ?_
            refine wpO_not rfl ?_
            refine wpO_not rfl ?_
            refine wpO_not rfl ?_
            refine wpO_not rfl ?_
            refine wpO_not rfl ?_
            refine wpO_not rfl ?_
            refine wpO_val rfl (x_pickB rfl rfl) ?_
            refine wpO_nil ?_
            refine wpF_true rfl ?_
            refine wpF_seq ?_
            refine wpF_region rfl ?_   -- R7
            refine wpO_val rfl (x_assignB rfl) ?_
            refine wpO_nil ?_
            refine wpF_ret ?_
            repeat (with_reducible first | refine thenF_r ?_ | refine inBlockF_r ?_)
            refine end_t rfl rfl ?_   -- tmp:4
            exact ⟨⟨true, rfl, fun h => (by cases h), fun _ ⟨_, h⟩ => by have := (h xs[k] (List.getElem_mem hk')).1; simp at hb28; omega⟩, H.sel [] 0 rfl rfl⟩
          ·
            refine wpO_val rfl (x_moveL rfl) ?_
            refine wpO_val rfl (x_moveI rfl) ?_
            refine wpO_val rfl (x_indexEl hs Tryz.underlying22 Tryz.sizeOf66 rfl rfl (by omega) (by omega)) ?_
            refine wpO_val rfl (x_fieldAddr Tryz.underlying66 rfl Tryz.sizeOf59 rfl) ?_
            refine wpO_val rfl (x_fieldAddr Tryz.underlying59 rfl Tryz.sizeOf57 rfl) ?_
            refine wpO_val rfl (x_loadElF (o := 4) Tryz.isAgg57 hs H rfl (List.getElem?_eq_getElem hk') rfl rfl) ?_
            refine wpO_val rfl (x_lenSl Tryz.underlying57 rfl) ?_
            refine wpO_val rfl (x_cmp rfl rfl rfl rfl) ?_
            refine wpO_val rfl (x_pickB rfl rfl) ?_
            refine wpO_val rfl (x_moveB rfl) ?_
            refine wpO_split 38 rfl (fun hb38 => ?_) (fun hb38 => ?_)
            ·
              refine wpO_not rfl ?_
              refine wpO_not rfl ?_
              refine wpO_not rfl ?_
              refine wpO_not rfl ?_
              refine wpO_not rfl ?_
              refine wpO_not rfl ?_
              refine wpO_not rfl ?_
              refine wpO_not rfl ?_
              refine wpO_val rfl (x_pickB rfl rfl) ?_
              refine wpO_nil ?_
              refine wpF_true rfl ?_
              refine wpF_seq ?_
              refine wpF_region rfl ?_   -- R7
              refine wpO_val rfl (x_assignB rfl) ?_
              refine wpO_nil ?_
              refine wpF_ret ?_
              repeat (with_reducible first | refine thenF_r ?_ | refine inBlockF_r ?_)
              refine end_t rfl rfl ?_   -- tmp:4
              exact ⟨⟨true, rfl, fun h => (by cases h), fun _ ⟨_, h⟩ => by have := (h xs[k] (List.getElem_mem hk')).2.1; simp at hb38; omega⟩, H.sel [] 0 rfl rfl⟩
            ·
              refine wpO_val rfl (x_moveL rfl) ?_
              refine wpO_val rfl (x_moveI rfl) ?_
              refine wpO_val rfl (x_indexEl hs Tryz.underlying22 Tryz.sizeOf66 rfl rfl (by omega) (by omega)) ?_
              refine wpO_val rfl (x_fieldAddr Tryz.underlying66 rfl Tryz.sizeOf59 rfl) ?_
              refine wpO_val rfl (x_fieldAddr Tryz.underlying59 rfl Tryz.sizeOf9 rfl) ?_
              refine wpO_val rfl (x_loadElF (o := 1) Tryz.isAgg9 hs H rfl (List.getElem?_eq_getElem hk') rfl rfl) ?_
              refine wpO_val rfl (x_lenStr Tryz.underlying9 rfl) ?_
              refine wpO_val rfl (x_cmp rfl rfl rfl rfl) ?_
              refine wpO_val rfl (x_pickB rfl rfl) ?_
              refine wpO_nil ?_
              refine wpF_cond _ rfl (fun hc47 => ?_) (fun hc47 => ?_)
              ·
                refine wpF_seq ?_
                refine wpF_region rfl ?_   -- R7
                refine wpO_val rfl (x_assignB rfl) ?_
                refine wpO_nil ?_
                refine wpF_ret ?_
                repeat (with_reducible first | refine thenF_r ?_ | refine inBlockF_r ?_)
                refine end_t rfl rfl ?_   -- tmp:4
                exact ⟨⟨true, rfl, fun h => (by cases h), fun _ ⟨_, h⟩ => by have := (h xs[k] (List.getElem_mem hk')).2.2; simp [ByteArray.size] at hc47; omega⟩, H.sel [] 0 rfl rfl⟩
              ·
                refine wpF_skip ?_
                refine wpF_region rfl ?_   -- R5
                refine wpO_val rfl (x_moveI rfl) ?_
                refine wpO_val rfl (x_arith rfl rfl (fun _ => rfl) rfl) ?_
                refine wpO_val rfl (x_assignI rfl) ?_
                refine wpO_nil ?_
                refine ⟨xs.length - (k + 1), by omega, k + 1, _, ⟨by omega, rfl, all_take16 hk' hall ⟨by simp at hb28; omega, by simp at hb38; omega, by simp [ByteArray.size] at hc47; omega⟩⟩, H, updL_eta ⟨rfl, vi64 (w64 (by omega) (by omega)), trivial⟩⟩
        ·
          have hov : xs.take k = xs := List.take_of_length_le (by simp at hc17; omega)
          refine wpF_exit ?_   -- exit 0
          refine wpF_seq ?_
          refine wpF_region rfl ?_   -- R8
          refine wpO_val rfl (x_assignB rfl) ?_
          refine wpO_nil ?_
          refine wpF_ret ?_
          repeat (with_reducible first | refine thenF_r ?_ | refine inBlockF_r ?_)
          refine end_t rfl rfl ?_   -- tmp:4
          exact ⟨⟨false, rfl, fun _ => ⟨hmax, fun x hx => hall x (by rw [hov]; exact hx)⟩, fun h => by cases h⟩, H.sel [] 0 rfl rfl⟩
-- >> great16_c
end Go.Proofs.YtfoginganpgmcaaGreat
