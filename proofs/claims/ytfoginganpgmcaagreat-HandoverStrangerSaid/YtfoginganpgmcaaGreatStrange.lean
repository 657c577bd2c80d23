/- Layer 16: a stranger: what hearing comes to. -/
import Derived.Test.YtfoginganpgmcaaGreatBuilt
set_option linter.unusedSimpArgs false
set_option linter.unusedVariables false
namespace Go.Proofs.YtfoginganpgmcaaGreat
open Go Go.Tw
set_option maxRecDepth 100000

theorem eqMap_self {K V : Type} [DecidableEq K] [DecidableEq V] {l : List (K × V)} (h : (l.map (·.1)).Nodup) : eqMap l l = true := by
  unfold eqMap
  simp only [decide_true, Bool.true_and, List.all_eq_true, decide_eq_true_eq]
  intro p hp
  exact mem_kget h hp
theorem bkSame_like {φ : Ticket → Option DocC} {B B' : Bk} (h : BkLike B B') (ho : (B.owns.map (·.1)).Nodup) (hh : (B.helds.map (·.1)).Nodup) : bkSame φ φ B B' = true := by
  unfold bkSame
  rw [h.self, h.n, h.owns, h.helds, eqMap_self ho, eqMap_self hh]
  simp [eqDocs, h.len]

section
variable {B : Bk} {fr : IK .u8} {k : Key} {m : Msg}
theorem hearOk (h1 : 1 ≤ m.kind.n) (h5 : m.kind.n ≤ 5) (hs : fr.n ≠ B.self.n) (hn : fr.n < B.n.n) : B.hear fr m = B.hearK fr m m.kind.n.toNat := by
  unfold Bk.hear
  rw [if_neg]
  unfold Bk.hearBad
  simp [h1, h5, hs, hn]
theorem strangeWant (hs : fr.n ≠ B.self.n) (hn : fr.n < B.n.n) (h : (kget B.owns k).isSome = false ∨ ((kget B.owns k).getD Own.zero).c.leg.car.n ≠ fr.n) : ∃ e : IK .i64, e.n ≠ 0 ∧ B.hear fr (mWant k) = ⟨B, [⟨fr, mRefuse k e⟩], 0⟩ := by
  rw [hearOk (m := mWant k) (by simp [mWant, mGrant, mRecall, mReturn]) (by simp [mWant, mGrant, mRecall, mReturn]) hs hn]
  show ∃ e : IK .i64, e.n ≠ 0 ∧ (⟨(B.hWant fr (mWant k)).1, (B.hWant fr (mWant k)).2, 0⟩ : HR) = _
  unfold Bk.hWant
  by_cases h0 : (kget B.owns k).isSome = false
  · exact ⟨IK.lit .i64 4, by decide, by simp [mWant, h0]⟩
  · have hc := h.resolve_left h0
    by_cases ha : ((kget B.owns k).getD Own.zero).away = true
    · exact ⟨IK.lit .i64 160, by decide, by simp [mWant, h0, ha]⟩
    · have hc' : (((kget B.owns k).getD Own.zero).c.leg.car.n != fr.n) = true := by simpa using hc
      exact ⟨IK.lit .i64 1, by decide, by simp [mWant, h0, ha, hc']⟩
theorem strangeGrant (c : Coupon) (hs : fr.n ≠ B.self.n) (hn : fr.n < B.n.n) (h : k.t.car.n ≠ fr.n) : B.hear fr (mGrant k c) = ⟨B, [], 0⟩ := by
  rw [hearOk (m := mGrant k c) (by simp [mWant, mGrant, mRecall, mReturn]) (by simp [mWant, mGrant, mRecall, mReturn]) hs hn]
  show (⟨(B.hGrant fr (mGrant k c)).1, [], (B.hGrant fr (mGrant k c)).2⟩ : HR) = _
  have hx : B.hGrantNo fr (mGrant k c) = true := by simp [Bk.hGrantNo, mGrant, h]
  rw [Bk.hGrant, if_pos hx]
theorem strangeRecall (hs : fr.n ≠ B.self.n) (hn : fr.n < B.n.n) (h : k.t.car.n ≠ fr.n) : B.hear fr (mRecall k) = ⟨B, [], 0⟩ := by
  rw [hearOk (m := mRecall k) (by simp [mWant, mGrant, mRecall, mReturn]) (by simp [mWant, mGrant, mRecall, mReturn]) hs hn]
  show (⟨(B.hRecall fr (mRecall k)).1, (B.hRecall fr (mRecall k)).2, 0⟩ : HR) = _
  have hx : B.heldIs fr (mRecall k) = false := by simp [Bk.heldIs, mRecall, h]
  rw [Bk.hRecall, if_pos hx]
theorem strangeReturn (c : Coupon) (hs : fr.n ≠ B.self.n) (hn : fr.n < B.n.n) (h : (kget B.owns k).isSome = false ∨ ((kget B.owns k).getD Own.zero).away = false ∨ ((kget B.owns k).getD Own.zero).to.n ≠ fr.n) : B.hear fr (mReturn k c) = ⟨B, [], 0⟩ := by
  rw [hearOk (m := mReturn k c) (by simp [mWant, mGrant, mRecall, mReturn]) (by simp [mWant, mGrant, mRecall, mReturn]) hs hn]
  show (⟨B.hReturn fr (mReturn k c), [], 0⟩ : HR) = _
  have hx : B.awayIs fr (mReturn k c) = false := by
    rcases h with h | h | h <;> simp [Bk.awayIs, mReturn, h]
  rw [Bk.hReturn, hx]
  rfl
end
/-- Does whom the Want comes from not fly it? -/
def offW (B : Bk) (k : Key) (fr : IK .u8) : Bool := !(kget B.owns k).isSome || (((kget B.owns k).getD Own.zero).c.leg.car.n != fr.n)
theorem offW_or {B : Bk} {k : Key} {fr : IK .u8} (h : offW B k fr = true) : (kget B.owns k).isSome = false ∨ ((kget B.owns k).getD Own.zero).c.leg.car.n ≠ fr.n := by
  simpa [offW] using h
/-- Is it not away to whom the Return comes from? -/
def offR (B : Bk) (k : Key) (fr : IK .u8) : Bool := !(kget B.owns k).isSome || !((kget B.owns k).getD Own.zero).away || (((kget B.owns k).getD Own.zero).to.n != fr.n)
theorem offR_or {B : Bk} {k : Key} {fr : IK .u8} (h : offR B k fr = true) : (kget B.owns k).isSome = false ∨ ((kget B.owns k).getD Own.zero).away = false ∨ ((kget B.owns k).getD Own.zero).to.n ≠ fr.n := by
  simpa [offR, or_assoc] using h
section
variable {c : Cx} {g : Heap} {w : World} {F : List Asn} {s : Sl} {xs : List BAct}
theorem greatF_c (hg : GoodActs xs) (hs : SlR g BAct.v 46 s xs) (H : Holds c g w F) : Calls Tryz.prog 6 #[s.v, Sl.nil.v] w (Ret fun v w' => v = .bool false ∧ Holds c g w' F) :=
  (great16_c hs H).mono (Ret.mono fun _ _ ⟨⟨b, hv, _, h⟩, H⟩ => ⟨by cases b with | true => exact absurd hg (h rfl) | false => exact hv, H⟩)
theorem greatT_c (hg : ¬ GoodActs xs) (hs : SlR g BAct.v 46 s xs) (H : Holds c g w F) : Calls Tryz.prog 6 #[s.v, Sl.nil.v] w (Ret fun v w' => v = .bool true ∧ Holds c g w' F) :=
  (great16_c hs H).mono (Ret.mono fun _ _ ⟨⟨b, hv, h, _⟩, H⟩ => ⟨by cases b with | true => exact hv | false => exact absurd (h rfl) hg, H⟩)
end
end Go.Proofs.YtfoginganpgmcaaGreat
