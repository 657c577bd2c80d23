/- The given statement on tarmaclaw16.HandoverStranger is proved as it stands: for every input the call returns true and leaves its arguments as they were. No conditions. -/
import Derived.Test.YtfoginganpgmcaaGreatRows
import Derived.Test.YtfoginganpgmcaaGreatHs
import Derived.Test.YtfoginganpgmcaaGreatStart
import Derived.WalkKit
import Derived.ProofKit
import Derived.OpenShut
import Derived.ShutString
import Derived.ChangeOld
import Derived.Below
set_option linter.unusedSimpArgs false
namespace Go.Proofs.YtfoginganpgmcaaGreat
open Go Go.Tw
open Go.ChangeShapes Go.WideShapes Go.ChangeAt Go.RowKit
set_option linter.unusedVariables false
set_option maxRecDepth 100000

theorem own1 : ownKnob Tryz.prog.godebug = none := by kernel_rfl
theorem laidOut1 : laidOutB Tryz.prog = true := by kernel_rfl

theorem hs_c {c : Cx} {g0 : Heap} {w : World} {F : List Asn} {self : IK .u8} {nn : IK .i64} {s : Sl} {xs : List BAct} {k : Key} {fr : IK .u8} {c0 : Coupon} (hs : SlR g0 BAct.v 46 s xs) (hsales : ∀ x ∈ xs, ∃ legs taxes, SaleR g0 x.s legs taxes) (H : Holds c g0 w F) :
    Calls Tryz.prog 3 #[self.v, nn.v, s.v, k.v, fr.v, c0.v] w (Ret fun v w' => v = .bool true ∧ Holds c g0 w' F) := by
  by_cases hg : GoodActs xs
  · cases h0 : newOk self nn with
    | false => exact hsNo_c h0 hg hs H
    | true =>
      by_cases h1 : fr.n = self.n
      · exact hsSelf_c h0 hg hs hsales h1 H
      · by_cases h2 : fr.n < nn.n
        · exact hsYes_c h0 hg h1 h2 hs hsales H
        · exact hsFar_c h0 hg hs hsales h1 h2 H
  · exact hsGreat_c hg hs H

theorem lifted1 (os : Os) (started : os.Started) (H : Type) (enc : TypeId × Value → H) :
    ReturnsInHanded {} Tryz.checked os 3 .any (Rows.handoverStrangerSpec.pre6 enc Tryz.prog Tryz.f3 Rows.handoverStrangerRow.domain false) (Rows.handoverStrangerSpec.post enc Tryz.prog Tryz.f3 false true false false) := by
  refine returnsInHanded_of_change (C := Tryz.checked) own1 started (by kernel_rfl) Tryz.func3
    (ChangeSpec.witness6 (enc := enc) (C := Tryz.checked) false ⟨#[], #[.int .u8 0, .int .i64 0, .slice none 0 0, .agg #[.int .u8 0, .int .u64 0, .int .u8 0], .int .u8 0, .agg #[.int .u8 0, .int .u16 0, .int .u32 0, .int .i64 0, .int .u8 0, .int .u32 0]], []⟩ 8 (by kernel_rfl) (by kernel_rfl) (by kernel_rfl) (by kernel_rfl)) ?_
  intro W base args ds gs before hval0 hW hcnd _
  have hval : ∀ (j : Nat) t v, Tryz.f3.params[j]? = some t → args[j]? = some v → Value.okWide Tryz.prog W .any base t v := hval0
  have hW' := hW
  obtain ⟨p, q, hA0, hV, rfl, hfz, hnd⟩ := hW
  have hA : DataW.TrodAll enc Tryz.prog W 0 (fun _ => true) true Tryz.f3.params.toList args.toList ds p := hA0
  rw [Tryz.params3] at hA hval
  obtain ⟨v0, vs0, d0, ds0, p0, q0, hargs, rfl, rfl, h0, r0⟩ := trodAll_cons hA
  obtain ⟨v1, vs1, d1, ds1, p1, q1, rfl, rfl, rfl, h1, r1⟩ := trodAll_cons r0
  obtain ⟨v2, vs2, d2, ds2, p2, q2, rfl, rfl, rfl, h2, r2⟩ := trodAll_cons r1
  obtain ⟨v3, vs3, d3, ds3, p3, q3, rfl, rfl, rfl, h3, r3⟩ := trodAll_cons r2
  obtain ⟨v4, vs4, d4, ds4, p4, q4, rfl, rfl, rfl, h4, r4⟩ := trodAll_cons r3
  obtain ⟨v5, vs5, d5, ds5, p5, q5, rfl, rfl, rfl, h5, r5⟩ := trodAll_cons r4
  obtain ⟨rfl, rfl, rfl⟩ := trodAll_nil r5
  obtain rfl : args = #[v0, v1, v2, v3, v4, v5] := by cases args; simp_all
  obtain ⟨rfl, rfl⟩ := trodVars_none hV
  have lt : ∀ {t : TypeId} {v : Value} {d : DataW H} {p : List MemPlace}, DataW.Trod enc Tryz.prog W 0 (fun _ => true) true t v d p → ∀ x ∈ p, x.block < W.heap.size := fun h => by obtain ⟨m, hm⟩ := h; exact DataW.trod_lt m _ _ _ hm
  have k0 := h0
  have k1 := h1
  have k4 := h4
  obtain ⟨n0, rfl, _, _, w0⟩ := open_int Tryz.underlying5 (hval 0 _ v0 rfl rfl) h0
  obtain ⟨n1, rfl, _, _, w1⟩ := open_int Tryz.underlying3 (hval 1 _ v1 rfl rfl) h1
  obtain ⟨n4, rfl, _, _, w4⟩ := open_int Tryz.underlying5 (hval 4 _ v4 rfl rfl) h4
  obtain ⟨self, rfl⟩ := ik_of w0
  obtain ⟨nn, rfl⟩ := ik_of w1
  obtain ⟨fr, rfl⟩ := ik_of w4
  obtain ⟨k, rfl⟩ := open_val Tryz.underlying27 o_key (fun y => ⟨_, rfl⟩) (hval 3 _ v3 rfl rfl) h3
  obtain ⟨c0, rfl⟩ := open_val Tryz.underlying34 o_coupon (fun y => ⟨_, rfl⟩) (hval 5 _ v5 rfl rfl) h5
  obtain ⟨a2, len2, cap2, rfl⟩ := okWide_slice Tryz.underlying22 (hval 2 _ v2 rfl rfl)
  obtain ⟨s, xs, hsv, hs, hacts⟩ : ∃ (s : Sl) (xs : List BAct), Value.slice a2 len2 cap2 = s.v ∧ SlR (fun b => W.heap[b]?) BAct.v 46 s xs ∧ ∀ a ∈ xs, (∃ legs taxes, SaleR (fun b => W.heap[b]?) a.s legs taxes) ∧ ∃ legs taxes vals, DocR (fun b => W.heap[b]?) a.d legs taxes vals := by
    obtain ⟨fuel, hf⟩ := h2
    obtain ⟨s, xs, h, hs, ha⟩ := o_acts _ _ _ hf
    exact ⟨s, xs, by simpa [Value.cells] using h, hs, ha⟩
  rw [hsv] at h2 hW'
  rw [hsv]
  clear hA0 hval0
  refine (hs_c (self := self) (nn := nn) (k := k) (fr := fr) (c0 := c0) hs (fun a ha => (hacts a ha).1) (Holds.start W)).mono fun e W' hR => ?_
  obtain ⟨v, rfl, rfl, HH⟩ := hR
  have bel := HH.below
  exact ⟨_, rfl, _, _, _, [], _, [], hW', trodAll_mk1 (shut_bool Tryz.underlying4 _),
    (trodAll_cons_mk (Below.trod laidOut1 (by kernel_rfl) (of_decide_eq_true (by kernel_rfl)) k0 bel (lt k0))
    (trodAll_cons_mk (Below.trod laidOut1 (by kernel_rfl) (of_decide_eq_true (by kernel_rfl)) k1 bel (lt k1))
    (trodAll_cons_mk (Below.trod laidOut1 (by kernel_rfl) (of_decide_eq_true (by kernel_rfl)) h2 bel (lt h2))
    (trodAll_cons_mk (Below.trod laidOut1 (by kernel_rfl) (of_decide_eq_true (by kernel_rfl)) h3 bel (lt h3))
    (trodAll_cons_mk (Below.trod laidOut1 (by kernel_rfl) (of_decide_eq_true (by kernel_rfl)) k4 bel (lt k4))
    (trodAll_cons_mk (Below.trod laidOut1 (by kernel_rfl) (of_decide_eq_true (by kernel_rfl)) h5 bel (lt h5)) trodAll_mk0)))))), rfl, bel.frame _, fun h => by cases h⟩

theorem over1 : Rows.handoverStrangerRow.holds Tryz.pinned (OpenSpec.ofChange Rows.handoverStrangerSpec) :=
  OpenClaim.holds_of_wide 3 Tryz.f3 rfl rfl rfl rfl rfl rfl rfl ⟨rfl, rfl, rfl, rfl, rfl⟩ rfl rfl rfl rfl rfl (by kernel_rfl) Tryz.func3 (by kernel_rfl)
    (of_decide_eq_true (by kernel_rfl)) (by unfold Func.isWrapper; rw [if_neg (of_decide_eq_false (by kernel_rfl))]; exact ⟨rfl, rfl⟩)
    (fun os started H enc _ => lifted1 os started H enc)

theorem handoverStranger_holds : Rows.HandoverStrangerSaid := over1
#print axioms handoverStranger_holds
end Go.Proofs.YtfoginganpgmcaaGreat
