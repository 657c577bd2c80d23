/- A book: Issue. -/
import Derived.Test.YtfoginganpgmcaaGreatHear
set_option linter.unusedSimpArgs false
set_option linter.unusedVariables false
namespace Go.Tw
open Go
theorem IK.v_inj {k : IntKind} {x y : IK k} (h : x.v = y.v) : x = y := by
  unfold IK.v at h
  injection h with _ h
  exact IK.ext' h
theorem strV_inj {x y : List UInt8} (h : strV x = strV y) : x = y := by
  unfold strV at h
  injection h with h
  injection h with h
  simpa using congrArg Array.toList h
theorem Sl.v_inj {x y : Sl} (h : x.v = y.v) : x = y := by
  unfold Sl.v at h
  cases x; cases y
  simp at h
  simp [h]
theorem DocP.v_inj {x y : DocP} (h : x.v = y.v) : x = y := by
  unfold DocP.v at h
  injection h with h
  simp only [Array.mk.injEq, List.cons.injEq, and_true] at h
  obtain ⟨a1, a2, a3, a4, a5, a6, a7, a8, a9, a10, a11, a12, a13, a14, a15, a16, a17⟩ := h
  obtain ⟨⟨x1, x2⟩, ⟨x3, x4, x5, x6, x7⟩, x8, ⟨x9, x10⟩, ⟨x11, x12⟩, x13, x14, x15, x16, x17⟩ := x
  obtain ⟨⟨y1, y2⟩, ⟨y3, y4, y5, y6, y7⟩, y8, ⟨y9, y10⟩, ⟨y11, y12⟩, y13, y14, y15, y16, y17⟩ := y
  simp only at a1 a2 a3 a4 a5 a6 a7 a8 a9 a10 a11 a12 a13 a14 a15 a16 a17
  rw [IK.v_inj a1, IK.v_inj a2, strV_inj a3, Sl.v_inj a4, IK.v_inj a5, Sl.v_inj a6, IK.v_inj a7, Sl.v_inj a8, IK.v_inj a9, IK.v_inj a10, IK.v_inj a11, IK.v_inj a12, IK.v_inj a13, IK.v_inj a14, IK.v_inj a15, IK.v_inj a16, IK.v_inj a17]
end Go.Tw
namespace Go.Proofs.YtfoginganpgmcaaGreat
open Go Go.Tw
set_option maxRecDepth 100000

/-- The next ticket's number. -/
def Bk.tick (B : Bk) : Ticket := ⟨B.self, IK.of .u64 (IntKind.i64.wrap ((B.docs.length : Int) + 1))⟩
def Bk.issueE (B : Bk) (s : SaleP) (legs : List Leg) (taxes : List Tax) : Int := if 32 ≤ B.docs.length then 3 else makeErr B.tick s legs taxes B.n.n
def newOwn (l : Leg) (v : IK .i64) : Own := { Own.zero with c := { Coupon.zero with leg := l, val := v, st := IK.lit .u8 1 } }
/-- The coupons of a new document, so many of them. -/
def putN (owns : List (Key × Own)) (t : Ticket) (legs : List Leg) (ys : List (IK .i64)) : Nat → List (Key × Own)
  | 0 => owns
  | k + 1 => kput (putN owns t legs ys k) ⟨t, IK.of .u8 k⟩ (newOwn (legs.getD k Leg.zero) (ys.getD k (IK.lit .i64 0)))
def Bk.issued (B : Bk) (d : DocP) (legs : List Leg) (ys : List (IK .i64)) : Bk := { B with docs := kput B.docs d.t d, owns := putN B.owns d.t legs ys ys.length }

def MkR (g g' : Heap) (B : Bk) (s : SaleP) (legs : List Leg) (taxes : List Tax) (v : Value) (d : DocP) (e : Int) : Prop :=
  v = .tuple #[d.v, .int .i64 e] ∧ Le g g' ∧ e = makeErr B.tick s legs taxes B.n.n ∧ (e = 0 → ∃ vals, NewDoc g' B.tick s legs taxes d vals)
def IssL (B : Bk) (b b3 b4 : Nat) (s : SaleP) : List Asn := B.L b ++ [pt b3 (.cells s.v.cells 59), pt b4 (.cells DocP.zero.v.cells 62)]
def IssS (c : Cx) (g : Heap) (F : List Asn) (B : Bk) (b b3 b4 : Nat) (s : SaleP) (legs : List Leg) (taxes : List Tax) (r : Option Value) (vs : List Value) (w : World) : Prop :=
  match r, vs with
  | none, [] => Holds c g w (IssL B b b3 b4 s ++ F)
  | some x, [] => ∃ b6, x = .pointer (some ⟨b6, 0, none⟩) ∧ Holds c g w ((IssL B b b3 b4 s ++ [pt b6 (.cells DocP.zero.v.cells 62)]) ++ F)
  | none, [v] => ∃ g' d e, MkR g g' B s legs taxes v d e ∧ Holds c g' w (IssL B b b3 b4 s ++ F)
  | some x, [v] => ∃ b6 g' d e, x = .pointer (some ⟨b6, 0, none⟩) ∧ MkR g g' B s legs taxes v d e ∧ Holds c g' w ((IssL B b b3 b4 s ++ [pt b6 (.cells DocP.zero.v.cells 62)]) ++ F)
  | some x, [v, _] => ∃ b6 g' d e, x = .pointer (some ⟨b6, 0, none⟩) ∧ MkR g g' B s legs taxes v d e ∧ Holds c g' w ((IssL B b b3 b4 s ++ [pt b6 (.cells d.v.cells 62)]) ++ F)
  | _, _ => False
theorem issMake {c : Cx} {g : Heap} {w : World} {F : List Asn} (B : Bk) (s : SaleP) (legs : List Leg) (taxes : List Tax) (hs : SaleR g s legs taxes) (hn : s.name.length ≤ 1000) (hl : legs.length ≤ 1000) (ht : taxes.length ≤ 1000) (H : Holds c g w F) :
    Calls Tryz.prog 58 #[B.tick.v, s.v, B.n.v] w (Ret fun v w' => ∃ g' d e, MkR g g' B s legs taxes v d e ∧ Holds c g' w' F) := by
  refine (make_c B.tick s legs taxes B.n.n hs hn hl ht H).mono (Ret.mono ?_)
  rintro v w ⟨g', hle, H, ⟨h0, rfl⟩ | ⟨h0, d, vals, rfl, hd⟩⟩
  · exact ⟨g', DocP.zero, _, ⟨rfl, hle, rfl, fun h => absurd h h0⟩, H⟩
  · exact ⟨g', d, 0, ⟨rfl, hle, h0.symm, fun _ => ⟨vals, hd⟩⟩, H⟩
/-- Values are numbers of their kind. -/
theorem vals_ik {fare : IK .i64} {legs : List Leg} {vals : List Int} (hf : 0 ≤ fare.n ∧ fare.n ≤ 1125899906842624) (hw : ∀ l ∈ legs, 1 ≤ l.wt.n) (hl : 1 ≤ legs.length ∧ legs.length ≤ 4) (h : ValsOf fare.n legs vals) : ∃ ys : List (IK .i64), vals = ys.map (·.n) := by
  have hb : ∀ v ∈ vals, 0 ≤ v ∧ v ≤ 1125899906842624 + 4 := by
    obtain ⟨ys, W, hW, ⟨hp, _⟩, rfl⟩ := h
    have hW0 : ∀ x ∈ W, 0 ≤ x := by
      intro x hx
      rw [hW] at hx
      obtain ⟨l, hl, rfl⟩ := List.mem_map.1 hx
      have := hw l hl
      omega
    have hlen : W.length = legs.length := by rw [hW]; simp
    have hys : ys.length = W.length := by rw [hp.length_eq, rl_len]
    have hws : ∀ o ∈ whs fare.n W.sum W, 0 ≤ o ∧ o ≤ fare.n + 0 := by
      intro o ho
      obtain ⟨x, hx, rfl⟩ := List.mem_map.1 ho
      have h1 := le_sum hW0
      have h2 := h1.2 x hx
      have h3 := hW0 x hx
      have h4 : 0 ≤ fare.n * x := Int.mul_nonneg hf.1 h3
      refine ⟨Int.ediv_nonneg h4 h1.1, ?_⟩
      rw [Int.add_zero]
      rcases Int.lt_or_le 0 W.sum with h5 | h5
      · refine Int.ediv_le_of_le_mul h5 (Int.mul_le_mul_of_nonneg_left h2 hf.1)
      · have : W.sum = 0 := by omega
        rw [this, Int.ediv_zero]; exact hf.1
    intro v hv
    have := give_le (M := fare.n) _ _ 0 hws (by omega) hf.1 v hv
    have h6 : (ys.take (leftOf fare.n W.sum W).toNat).length ≤ ys.length := by rw [List.length_take]; omega
    omega
  clear h
  induction vals with
  | nil => exact ⟨[], rfl⟩
  | cons v r ih =>
    obtain ⟨ys, rfl⟩ := ih fun x hx => hb x (by simp [hx])
    have := hb v (by simp)
    exact ⟨⟨v, by simp [IntKind.min, IntKind.signed, IntKind.bits]; omega, by simp [IntKind.max, IntKind.signed, IntKind.bits]; omega⟩ :: ys, rfl⟩

-- << bIssue_c
theorem bIssue_c {c : Cx} {g : Heap} {w : World} {F : List Asn} {b : Nat} (B : Bk) (s : SaleP) (legs : List Leg) (taxes : List Tax) (hs : SaleR g s legs taxes) (hn : s.name.length ≤ 1000) (hl : legs.length ≤ 1000) (ht : taxes.length ≤ 1000) (H : Holds c g w (B.L b ++ F)) :
    Calls Tryz.prog 16 #[.pointer (some ⟨b, 0, none⟩), s.v] w (Ret fun v w' => ∃ g', Le g g' ∧
      ((B.issueE s legs taxes ≠ 0 ∧ v = .tuple #[DocP.zero.v, .int .i64 (B.issueE s legs taxes)] ∧ Holds c g' w' (B.L b ++ F)) ∨
       (B.issueE s legs taxes = 0 ∧ ∃ d d2 ys, v = .tuple #[DocP.v d2, .int .i64 0] ∧ NewDoc g' B.tick s legs taxes d (ys.map (·.n)) ∧ d2.bare = d.bare ∧ DocR g' d2 legs taxes (ys.map (·.n)) ∧ Holds c g' w' ((B.issued d legs ys).L b ++ F)))) := by
  -- (*tarmac/book.Book).Issue  (function 16; params ['37', '59']; results cell:4 62 tmp:5; ntmps 82)
  refine calls_of_wpF Tryz.func16 rfl Tryz.ntmps16 rfl ?_
  refine wpF_seq ?_
  refine wpF_region rfl ?_   -- R0
  refine wpO_eff rfl (e_boxA H rfl fun b3 w H => ?_)
  refine wpO_eff rfl (e_alloc H Tryz.zeroValue62 fun b4 w H => ?_)
  refine wpO_val rfl (x_assignI rfl) ?_
  refine wpO_nil ?_
  refine wpF_seq ?_
  refine wpF_block ?_   -- block 0
  refine wpF_seq ?_
  refine wpF_region rfl ?_   -- R1
  refine wpO_val rfl (x_moveP rfl) ?_
  refine wpO_val rfl (x_eqlNil Tryz.underlying37 rfl rfl) ?_
  refine wpO_val rfl (x_assignB rfl) ?_
  refine wpO_nil ?_
  refine wpF_false rfl ?_
  refine wpF_seq ?_
  refine wpF_region rfl ?_   -- R3
  refine wpO_val rfl (x_moveP rfl) ?_
  refine wpO_val rfl (x_nilCheck rfl) ?_
  refine wpO_val rfl (x_fieldAddrN Tryz.underlying105 rfl Tryz.sizeOf101 rfl rfl) ?_
  refine wpO_val rfl (x_load0bM Tryz.isAgg101 rfl (H.getF 0 rfl) rfl) ?_
  refine wpO_val rfl (H.lenMap 1 rfl Tryz.underlying101 rfl) ?_
  refine wpO_val rfl (x_cmp rfl rfl rfl rfl) ?_
  refine wpO_val rfl (x_assignB rfl) ?_
  refine wpO_nil ?_
  refine wpF_cond _ rfl (fun hc14 => ?_) (fun hc14 => ?_)
  ·
    refine wpF_seq ?_
    refine wpF_region rfl ?_   -- R4
    refine wpO_val rfl (x_buildSt stDoc [] rfl (cs := (DocP.zero.v).cells) (by kernel_rfl)) ?_
    refine wpO_eff0 rfl (e_storeAll (v := DocP.zero.v) H 5 rfl Tryz.sizeOf62 rfl rfl rfl rfl (by kernel_rfl) fun w H => ?_)
    refine wpO_val rfl (x_assignI rfl) ?_
    refine wpO_nil ?_
    refine wpF_ret ?_
    repeat (with_reducible first | refine thenF_r ?_ | refine inBlockF_r ?_)
    refine end_ct rfl rfl rfl Tryz.isAgg62 Tryz.sizeOf62 (H.getF 5 rfl) rfl ?_   -- cell:4 62 tmp:5
    have h32 : 32 ≤ B.docs.length := by simp at hc14; omega
    have hE : B.issueE s legs taxes = 3 := by rw [Bk.issueE, if_pos h32]
    exact ⟨g, Le.refl g, .inl ⟨by rw [hE]; decide, by rw [hE]; rfl, H.sel [0, 1, 2, 3] 6 rfl rfl⟩⟩
  ·
    have h32 : ¬ 32 ≤ B.docs.length := by simp at hc14; omega
    have hE : B.issueE s legs taxes = makeErr B.tick s legs taxes B.n.n := by rw [Bk.issueE, if_neg h32]
    refine wpF_skip ?_
    refine wpF_seq ?_
    -- R5 DRAWS; effects [(17, 'call'), (22, 'store')] float 21
    refine wpF_draw [0, 1, 2, 3, 4, 5, 6, 7, 8, 9, 10, 11, 12, 13, 14, 15, 16, 17, 18, 19, 20, 21, 22, 23] 21 (fun i => Nat.beq i 17 || Nat.beq i 22) (fun w => Has c w (IssL B b b3 b4 s)) (IssS c g F B b b3 b4 s legs taxes) mixed (by kernel_rfl) rfl ?hR (H.drew _) ?_
    case hR =>
      intro r vs w h
      match r, vs, h with
      | none, [], h => exact Holds.has h
      | some _, [], ⟨_, _, h⟩ => exact ⟨g, _, by rw [← List.append_assoc]; exact h⟩
      | none, [_], ⟨_, _, _, _, h⟩ => exact Holds.has h
      | some _, [_], ⟨_, _, _, _, _, _, h⟩ => exact ⟨_, _, by rw [← List.append_assoc]; exact h⟩
      | some _, [_, _], ⟨_, _, _, _, _, _, h⟩ => exact ⟨_, _, by rw [← List.append_assoc]; exact h⟩
      | none, _ :: _ :: _, h => exact h.elim
      | some _, _ :: _ :: _ :: _, h => exact h.elim
    refine wpDF_quiet rfl rfl rfl rfl (fun w HR => (x_moveP rfl)) ?_
    refine wpDF_quiet rfl rfl rfl rfl (fun w HR => (x_nilCheck rfl)) ?_
    refine wpDF_quiet rfl rfl rfl rfl (fun w HR => (x_fieldAddrN Tryz.underlying105 rfl Tryz.sizeOf5 rfl rfl)) ?_
    refine wpDF_quiet rfl rfl rfl rfl (fun w HR => (x_load0bI Tryz.isAgg5 rfl (HR.get 0 rfl) rfl)) ?_
    refine wpDF_quiet rfl rfl rfl rfl (fun w HR => (x_moveP rfl)) ?_
    refine wpDF_quiet rfl rfl rfl rfl (fun w HR => (x_nilCheck rfl)) ?_
    refine wpDF_quiet rfl rfl rfl rfl (fun w HR => (x_fieldAddrN Tryz.underlying105 rfl Tryz.sizeOf101 rfl rfl)) ?_
    refine wpDF_quiet rfl rfl rfl rfl (fun w HR => (x_load0bM Tryz.isAgg101 rfl (HR.get 0 rfl) rfl)) ?_
    refine wpDF_quiet rfl rfl rfl rfl (fun w HR => (HR.lenMap 1 rfl Tryz.underlying101 rfl)) ?_
    refine wpDF_quiet rfl rfl rfl rfl (fun w HR => (x_arith rfl rfl (fun _ => rfl) rfl)) ?_
    refine wpDF_quiet rfl rfl rfl rfl (fun w HR => (x_conv Tryz.underlying3 Tryz.underlying23 rfl)) ?_
    refine wpDF_quiet rfl rfl rfl rfl (fun w HR => (x_buildSt stTicket [B.self.v, B.tick.ser.v] rfl (cs := B.tick.v.cells) (by kernel_rfl))) ?_
    refine wpDF_quiet rfl rfl rfl rfl (fun w HR => (x_load1V s.v Tryz.isAgg59 Tryz.sizeOf59 rfl (HR.get 4 rfl) (by kernel_rfl) (by kernel_rfl))) ?_
    refine wpDF_quiet rfl rfl rfl rfl (fun w HR => (x_moveP rfl)) ?_
    refine wpDF_quiet rfl rfl rfl rfl (fun w HR => (x_nilCheck rfl)) ?_
    refine wpDF_quiet rfl rfl rfl rfl (fun w HR => (x_fieldAddrN Tryz.underlying105 rfl Tryz.sizeOf3 rfl rfl)) ?_
    refine wpDF_quiet rfl rfl rfl rfl (fun w HR => (x_load0bI Tryz.isAgg3 rfl (HR.get 0 rfl) rfl)) ?_
    refine wpDF_eff rfl rfl rfl rfl (fun r w hr H => ?_) (fun v hv => ?_)   -- 17: Make
    · cases r with
      | none => exact e_callF (vs := [B.tick.v, s.v, B.n.v]) Tryz.call58 rfl (issMake B s legs taxes hs hn hl ht H)
      | some x =>
        obtain ⟨b6, hx, H⟩ := H
        exact e_callF (vs := [B.tick.v, s.v, B.n.v]) Tryz.call58 rfl ((issMake B s legs taxes hs hn hl ht H).mono (Ret.mono fun v w ⟨g', d, e, h1, h2⟩ => ⟨b6, g', d, e, hx, h1, h2⟩))
    have hv : ∃ d e, v = .tuple #[DocP.v d, .int .i64 e] := by
      obtain ⟨r, w, h⟩ := hv
      match r, h with
      | none, ⟨_, d, e, h, _⟩ => exact ⟨d, e, h.1⟩
      | some _, ⟨_, _, d, e, _, h, _⟩ => exact ⟨d, e, h.1⟩
    obtain ⟨d, e, rfl⟩ := hv
    refine wpDF_quiet rfl rfl rfl rfl (fun w HR => (x_moveT rfl)) ?_
    refine wpDF_quiet rfl rfl rfl rfl (fun w HR => (x_extract (v := d.v) rfl rfl)) ?_
    refine wpDF_quiet rfl rfl rfl rfl (fun w HR => (x_extractI rfl rfl)) ?_
    refine wpDF_float rfl rfl (fun vs w H => ?_) (fun x hv => ?_)   -- 21: alloc
    · match vs, H with
      | [], H => exact e_alloc H Tryz.zeroValue62 fun b w H => ⟨b, rfl, H⟩
      | [v], ⟨g', d, e, h1, H⟩ => exact e_alloc H Tryz.zeroValue62 fun b w H => ⟨b, g', d, e, rfl, h1, H⟩
      | _ :: _ :: _, H => exact H.elim
    have hv : ∃ b6, x = .pointer (some ⟨b6, 0, none⟩) := by
      obtain ⟨vs, w, h⟩ := hv
      match vs, h with
      | [], ⟨b6, h, _⟩ => exact ⟨b6, h⟩
      | [_], ⟨b6, _, _, _, h, _⟩ => exact ⟨b6, h⟩
      | [_, _], ⟨b6, _, _, _, h, _⟩ => exact ⟨b6, h⟩
      | _ :: _ :: _ :: _, h => exact h.elim
    obtain ⟨b6, rfl⟩ := hv
    refine wpDF_eff rfl rfl rfl rfl (fun r w hr H => ?_) (fun v hv => ?_)   -- 22: store
    · obtain rfl := hr rfl
      obtain ⟨_, g', d', e', h2, h1, H⟩ := H
      cases h2
      have hd : d' = d := by
        have := h1.1
        injection this with this
        simp only [Array.mk.injEq, List.cons.injEq] at this
        exact (DocP.v_inj this.1).symm
      subst hd
      exact e_storeAll (v := DocP.v d') H 6 rfl Tryz.sizeOf62 rfl rfl rfl rfl (by kernel_rfl) fun w H => ⟨b6, g', d', e', rfl, h1, H⟩
    refine wpDF_quiet rfl rfl rfl rfl (fun w HR => (x_assignI rfl)) ?_
    refine wpDF_nil fun w H => ?_
    obtain ⟨_, g', d', e', h2, ⟨h1, hle, he, hok⟩, H⟩ := H
    cases h2
    obtain ⟨hd, hee⟩ : d = d' ∧ e = e' := by
      injection h1 with h1
      simp only [Array.mk.injEq, List.cons.injEq] at h1
      refine ⟨DocP.v_inj h1.1, ?_⟩
      have := h1.2.1
      injection this
    subst hd; subst hee
    replace H : Holds c g' w ((B.L b ++ [pt b3 (.cells s.v.cells 59), pt b4 (.cells DocP.zero.v.cells 62), pt b6 (.cells d.v.cells 62)]) ++ F) := H
    refine wpF_seq ?_
    refine wpF_seq ?_
    refine wpF_region rfl ?_   -- R6
    refine wpO_val rfl (x_moveI rfl) ?_
    refine wpO_val rfl (x_cmp rfl rfl rfl rfl) ?_
    refine wpO_nil ?_
    refine wpF_cond _ rfl (fun hc44 => ?_) (fun hc44 => ?_)
    ·
      refine wpF_seq ?_
      refine wpF_region rfl ?_   -- R7
      refine wpO_val rfl (x_buildSt stDoc [] rfl (cs := (DocP.zero.v).cells) (by kernel_rfl)) ?_
      refine wpO_val rfl (x_moveI rfl) ?_
      refine wpO_eff0 rfl (e_storeAll (v := DocP.zero.v) H 5 rfl Tryz.sizeOf62 rfl rfl rfl rfl (by kernel_rfl) fun w H => ?_)
      refine wpO_val rfl (x_assignI rfl) ?_
      refine wpO_nil ?_
      refine wpF_ret ?_
      repeat (with_reducible first | refine thenF_r ?_ | refine inBlockF_r ?_)
      refine end_ct rfl rfl rfl Tryz.isAgg62 Tryz.sizeOf62 (H.getF 5 rfl) rfl ?_   -- cell:4 62 tmp:5
      have h0 : B.issueE s legs taxes ≠ 0 := by rw [hE, ← he]; simpa using hc44
      exact ⟨g', hle, .inl ⟨h0, by rw [hE, ← he]; rfl, H.sel [0, 1, 2, 3] 7 rfl rfl⟩⟩
    ·
      have h0 : e = 0 := by simpa using hc44
      obtain ⟨vals, hd⟩ := hok h0
      have hsale : saleErr s legs taxes B.n.n = 0 := by
        have h1 : makeErr B.tick s legs taxes B.n.n = 0 := by rw [← he, h0]
        unfold makeErr at h1
        split at h1
        · omega
        · exact h1
      obtain ⟨hll, hf, hw1⟩ := saleOk hsale
      obtain ⟨ys, rfl⟩ := vals_ik hf hw1 hll hd.ok
      have hylen : ys.length = legs.length := by have := hd.len; simpa using this
      have hdt : d.t = B.tick := by rw [hd.eq]
      have hvl : d.vals.len = ys.length := by have := hd.r.v.len; simpa using this
      refine wpF_skip ?_
      refine wpF_seq ?_
      refine wpF_drawC [0, 1, 2, 3, 4, 5, 6, 7] [7] [0, 0, 0, 0, 0, 0, 0, 1] (fun _ _ => True) mixed (by kernel_rfl) rfl fun w hw => ?_   -- R8 DRAWS [(7, 'mapUpdate')]
      have H := H.to hw
      refine wpDC_e rfl rfl rfl rfl (x_moveP rfl) ?_
      refine wpDC_e rfl rfl rfl rfl (x_nilCheck rfl) ?_
      refine wpDC_e rfl rfl rfl rfl (x_fieldAddrN Tryz.underlying105 rfl Tryz.sizeOf101 rfl rfl) ?_
      refine wpDC_e rfl rfl rfl rfl (x_load0bM Tryz.isAgg101 rfl (H.getF 0 rfl) rfl) ?_
      refine wpDC_e rfl rfl rfl rfl (x_fieldAddrN Tryz.underlying62 rfl Tryz.sizeOf25 rfl rfl) ?_
      refine wpDC_e rfl rfl rfl rfl (x_load1V d.t.v Tryz.isAgg25 Tryz.sizeOf25 rfl (H.getF 6 rfl) (by kernel_rfl) (by kernel_rfl)) ?_
      refine wpDC_e rfl rfl rfl rfl (x_load1V d.v Tryz.isAgg62 Tryz.sizeOf62 rfl (H.getF 6 rfl) (by kernel_rfl) (by kernel_rfl)) ?_
      refine wpDC_eff0 rfl rfl rfl (e_mapUpdate (a := d.t) (u := d) H 1 rfl keyTicket Tryz.underlying101 rfl rfl rfl fun w H => ⟨trivial, ?_⟩)
      refine wpDC_nil ?_
      refine wpF_seq ?_
      refine wpF_seq ?_
      refine wpF_region rfl ?_   -- R9
      refine wpO_val rfl (x_fieldAddrN Tryz.underlying62 rfl Tryz.sizeOf60 rfl rfl) ?_
      refine wpO_val rfl (x_load0bL Tryz.isAgg60 rfl (H.getF 6 rfl) rfl) ?_
      refine wpO_val rfl (x_lenSl Tryz.underlying60 rfl) ?_
      refine wpO_val rfl (x_moveI rfl) ?_
      refine wpO_nil ?_
      refine wpF_block ?_   -- block 1
      refine wpF_loop (fun n f w => ∃ (k : Nat) (f0 : Fr), (k ≤ ys.length ∧ n = ys.length - k) ∧ Holds c g' w ((({ B with docs := kput B.docs d.t d, owns := putN B.owns d.t legs ys k } : Bk).L b ++ [pt b3 (.cells s.v.cells 59), pt b4 (.cells DocP.zero.v.cells 62), pt b6 (.cells d.v.cells 62)]) ++ F) ∧ f = updL f0 [(0, .pointer (some ⟨b, 0, none⟩)), (3, .pointer (some ⟨b3, 0, none⟩)), (4, .pointer (some ⟨b4, 0, none⟩)), (6, .pointer (some ⟨b6, 0, none⟩)), (55, d.vals.v), (56, .int .i64 d.vals.len), (57, .int .i64 (k : Nat))]) ys.length ?_ ?_
      · exact ⟨0, _, ⟨by omega, by omega⟩, H, updL_eta ⟨rfl, rfl, rfl, rfl, rfl, rfl, rfl, trivial⟩⟩
      · rintro n f w ⟨k, f0, ⟨hk, hn⟩, H, rfl⟩
        refine wpF_seq ?_
        refine wpF_region rfl ?_   -- R10
        refine wpO_val rfl (x_cmp rfl rfl rfl rfl) ?_
        refine wpO_nil ?_
        refine wpF_seq ?_
        refine wpF_cond _ rfl (fun hc58 => ?_) (fun hc58 => ?_)
        ·
          have hk' : k < ys.length := by rw [← hvl]; simpa using hc58
          have hkl : k < legs.length := by omega
          have hkm : k < (ys.map (·.n)).length := by simpa using hk'
          have hgy : (ys.map (·.n))[k]? = some ys[k].n := by simp [hk']
          have hL : legs.getD k Leg.zero = legs[k] := by simp [hkl]
          have hY : ys.getD k (IK.lit .i64 0) = ys[k] := by simp [hk']
          refine wpF_skip ?_
          refine wpF_seq ?_
          refine wpF_block ?_   -- block 2
          refine wpF_seq ?_
          refine wpF_region rfl ?_   -- R11
          refine wpO_val rfl (x_moveI rfl) ?_
          refine wpO_val rfl (x_indexEl hd.r.v Tryz.underlying60 Tryz.sizeOf2 rfl rfl (by omega) (by omega)) ?_
          refine wpO_val rfl (x_loadEl elint64 hd.r.v H rfl hgy) ?_
          refine wpO_val rfl (x_assignI rfl) ?_
          refine wpO_val rfl (x_assignI rfl) ?_
          refine wpO_nil ?_
          refine wpF_drawC [0, 1, 2, 3, 4, 5, 6, 7, 8, 9, 10, 11, 12, 13, 14, 15, 16, 17] [17] [0, 0, 0, 0, 0, 0, 0, 0, 0, 0, 0, 0, 0, 0, 0, 0, 0, 1] (fun _ _ => True) mixed (by kernel_rfl) rfl fun w hw => ?_   -- R12 DRAWS [(17, 'mapUpdate')]
          have H := H.to hw
          refine wpDC_e rfl rfl rfl rfl (x_moveP rfl) ?_
          refine wpDC_e rfl rfl rfl rfl (x_nilCheck rfl) ?_
          refine wpDC_e rfl rfl rfl rfl (x_fieldAddrN Tryz.underlying105 rfl Tryz.sizeOf102 rfl rfl) ?_
          refine wpDC_e rfl rfl rfl rfl (x_load0bM Tryz.isAgg102 rfl (H.getF 0 rfl) rfl) ?_
          refine wpDC_e rfl rfl rfl rfl (x_fieldAddrN Tryz.underlying62 rfl Tryz.sizeOf25 rfl rfl) ?_
          refine wpDC_e rfl rfl rfl rfl (x_load1V d.t.v Tryz.isAgg25 Tryz.sizeOf25 rfl (H.getF 6 rfl) (by kernel_rfl) (by kernel_rfl)) ?_
          refine wpDC_e rfl rfl rfl rfl (x_moveI rfl) ?_
          refine wpDC_e rfl rfl rfl rfl (x_conv Tryz.underlying3 Tryz.underlying5 rfl) ?_
          refine wpDC_e rfl rfl rfl rfl (x_buildSt stKey [d.t.v, (IK.of .u8 k).v] rfl (cs := (Key.v ⟨d.t, IK.of .u8 k⟩).cells) (by kernel_rfl)) ?_
          refine wpDC_e rfl rfl rfl rfl (x_fieldAddrN Tryz.underlying59 rfl Tryz.sizeOf56 rfl rfl) ?_
          refine wpDC_e rfl rfl rfl rfl (x_load0bL Tryz.isAgg56 rfl (H.getF 4 rfl) rfl) ?_
          refine wpDC_e rfl rfl rfl rfl (x_moveI rfl) ?_
          refine wpDC_e rfl rfl rfl rfl (x_indexEl (hs.l.mono hle) Tryz.underlying56 Tryz.sizeOf31 rfl rfl (by omega) (by omega)) ?_
          refine wpDC_e rfl rfl rfl rfl (x_loadEl elLeg (hs.l.mono hle) H rfl (List.getElem?_eq_getElem hkl)) ?_
          refine wpDC_e rfl rfl rfl rfl (x_moveI rfl) ?_
          refine wpDC_e rfl rfl rfl rfl (x_buildSt stCoupon [legs[k].v, ys[k].v, .int .u8 1] rfl (cs := (newOwn legs[k] ys[k]).c.v.cells) (by kernel_rfl)) ?_
          refine wpDC_e rfl rfl rfl rfl (x_buildSt stOwn [(newOwn legs[k] ys[k]).c.v] rfl (cs := (newOwn legs[k] ys[k]).v.cells) (by kernel_rfl)) ?_
          refine wpDC_eff0 rfl rfl rfl (e_mapUpdate (a := (⟨d.t, IK.of .u8 k⟩ : Key)) (u := newOwn legs[k] ys[k]) H 2 rfl keyKey Tryz.underlying102 rfl rfl rfl fun w H => ⟨trivial, ?_⟩)
          refine wpDC_nil ?_
          refine wpF_region rfl ?_   -- R13
          refine wpO_val rfl (x_arith rfl rfl (fun _ => rfl) rfl) ?_
          refine wpO_val rfl (x_moveI rfl) ?_
          refine wpO_nil ?_
          refine ⟨ys.length - (k + 1), by omega, k + 1, _, ⟨by omega, rfl⟩, ?_, updL_eta ⟨rfl, rfl, rfl, rfl, rfl, rfl, vi64 (w64 (by omega) (by omega)), trivial⟩⟩
          have hP : putN B.owns d.t legs ys (k + 1) = kput (putN B.owns d.t legs ys k) ⟨d.t, IK.of .u8 k⟩ (newOwn legs[k] ys[k]) := by rw [putN, hL, hY]
          rw [hP]
          exact H
        ·
          have hkk : k = ys.length := by have : ¬ (k : Int) < d.vals.len := by simpa using hc58
                                         omega
          refine wpF_exit ?_   -- exit 1
          refine wpF_seq ?_
          refine wpF_region rfl ?_   -- R14
          refine wpO_val rfl (x_load1V d.v Tryz.isAgg62 Tryz.sizeOf62 rfl (H.getF 6 rfl) (by kernel_rfl) (by kernel_rfl)) ?_
          refine wpO_eff rfl (e_callF (vs := [d.v]) Tryz.call37 rfl ((copied_c d hd.r hl ht (by simp; omega) H).mono (Ret.mono ?_)))
          rintro v81 w ⟨sl, st, sv, g2, rfl, hle2, hr2, H'⟩
          replace H := H.re H' rfl
          refine wpO_eff0 rfl (e_storeAll (v := DocP.v { d with s := { d.s with legs := sl, taxes := st }, vals := sv }) H 5 rfl Tryz.sizeOf62 rfl rfl rfl rfl (by kernel_rfl) fun w H => ?_)
          refine wpO_val rfl (x_assignI rfl) ?_
          refine wpO_nil ?_
          refine wpF_ret ?_
          repeat (with_reducible first | refine thenF_r ?_ | refine inBlockF_r ?_)
          refine end_ct rfl rfl rfl Tryz.isAgg62 Tryz.sizeOf62 (H.getF 5 rfl) rfl ?_   -- cell:4 62 tmp:5
          subst hkk
          have h00 : B.issueE s legs taxes = 0 := by rw [hE, ← he, h0]
          exact ⟨g2, hle.trans hle2, .inr ⟨h00, d, _, ys, rfl, ⟨hd.r.mono hle2, hd.eq, hd.ok, hd.len⟩, rfl, hr2, H.sel [0, 1, 2, 3] 7 rfl rfl⟩⟩
-- >> bIssue_c
end Go.Proofs.YtfoginganpgmcaaGreat
