/- The document's answer for shares. -/
import Derived.Test.YtfoginganpgmcaaGreatRef5
import Derived.Test.YtfoginganpgmcaaGreatShare
set_option linter.unusedSimpArgs false
set_option linter.unusedVariables false
namespace Go.Proofs.YtfoginganpgmcaaGreat
open Go Go.Tw
set_option maxRecDepth 100000

/-- The greatest of the first so many that are not given yet, and of like ones the first; -1: none. -/
def Best (q : List Int) (i : Nat) (b : Int) : Prop :=
  (b = -1 ∧ ∀ j, j < i → q.getD j 0 < 0) ∨ ∃ m : Nat, b = (m : Int) ∧ m < i ∧ 0 ≤ q.getD m 0 ∧ ∀ j, j < i → 0 ≤ q.getD j 0 → q.getD j 0 < q.getD m 0 ∨ (q.getD j 0 = q.getD m 0 ∧ m ≤ j)
theorem Best.start (q : List Int) : Best q 0 (-1) := .inl ⟨rfl, fun j h => by omega⟩
theorem Best.take {q : List Int} {i : Nat} {b : Int} (h : Best q i b) (hv : 0 ≤ q.getD i 0) (hb : b < 0 ∨ q.getD b.toNat 0 < q.getD i 0) : Best q (i + 1) i := by
  right
  refine ⟨i, rfl, by omega, hv, fun j hj h0 => ?_⟩
  rcases Nat.lt_or_ge j i with hji | hji
  · rcases h with ⟨h1, h2⟩ | ⟨m, h1, h2, h3, h4⟩
    · have := h2 j hji; omega
    · rcases hb with hb | hb
      · omega
      · have e : b.toNat = m := by omega
        rw [e] at hb
        rcases h4 j hji h0 with h5 | h5
        · left; omega
        · left; omega
  · have : j = i := by omega
    subst this
    exact .inr ⟨rfl, Nat.le_refl _⟩
theorem Best.skip {q : List Int} {i : Nat} {b : Int} (h : Best q i b) (hb : q.getD i 0 < 0 ∨ (0 ≤ b ∧ q.getD i 0 ≤ q.getD b.toNat 0)) : Best q (i + 1) b := by
  rcases h with ⟨h1, h2⟩ | ⟨m, h1, h2, h3, h4⟩
  · left
    refine ⟨h1, fun j hj => ?_⟩
    rcases Nat.lt_or_ge j i with hji | hji
    · exact h2 j hji
    · have : j = i := by omega
      subst this
      rcases hb with hb | hb
      · exact hb
      · omega
  · right
    refine ⟨m, h1, by omega, h3, fun j hj h0 => ?_⟩
    rcases Nat.lt_or_ge j i with hji | hji
    · exact h4 j hji h0
    · have : j = i := by omega
      subst this
      rcases hb with hb | ⟨_, hb⟩
      · omega
      · have e : b.toNat = m := by omega
        rw [e] at hb
        rcases Int.lt_or_eq_of_le hb with h5 | h5
        · exact .inl h5
        · exact .inr ⟨h5, by omega⟩

/-- What was given so far: the greatest, in order. -/
structure SelOk (l S : List (Int × Nat)) : Prop where
  pw : S.Pairwise RR
  mem : ∀ s ∈ S, s ∈ l
  top : ∀ s ∈ S, ∀ p ∈ l, p.2 ∉ S.map (·.2) → RR s p
  nd : (S.map (·.2)).Nodup
theorem SelOk.nil (l : List (Int × Nat)) : SelOk l [] := ⟨.nil, by simp, by simp, by simp⟩
/-- The rests, those that are given marked. -/
def RL (l S : List (Int × Nat)) : List Int := l.map fun p => if p.2 ∈ S.map (·.2) then -1 else p.1
theorem RL_len (l S : List (Int × Nat)) : (RL l S).length = l.length := by simp [RL]
theorem RL_nil (l : List (Int × Nat)) : RL l [] = l.map (·.1) := by simp [RL]
theorem RL_get {l S : List (Int × Nat)} {i : Nat} (h : i < l.length) (hi : l[i].2 = i) : (RL l S).getD i 0 = if i ∈ S.map (·.2) then -1 else l[i].1 := by
  have e : (RL l S).getD i 0 = if l[i].2 ∈ S.map (·.2) then -1 else l[i].1 := by simp [RL, List.getD_eq_getElem?_getD, h]
  rw [e]
  by_cases hm : i ∈ S.map (·.2)
  · rw [if_pos hm, if_pos (by rw [hi]; exact hm)]
  · rw [if_neg hm, if_neg (by rw [hi]; exact hm)]
theorem RL_snoc {l S : List (Int × Nat)} {m : Nat} (h : m < l.length) (hl : ∀ i (h : i < l.length), l[i].2 = i) : RL l (S ++ [l[m]]) = (RL l S).set m (-1) := by
  apply List.ext_getElem
  · simp [RL]
  · intro i h1 h2
    have hi : i < l.length := by simpa [RL] using h1
    simp only [RL, List.getElem_map, List.getElem_set, List.map_append, List.map_cons, List.map_nil, List.mem_append, List.mem_singleton, hl i hi, hl m h]
    by_cases e : m = i
    · subst e; simp
    · rw [if_neg e]
      by_cases hm : i ∈ S.map (·.2)
      · rw [if_pos hm, if_pos (.inl hm)]
      · rw [if_neg hm, if_neg (fun h => h.elim hm fun h => e h.symm)]
/-- How many are not given yet. -/
def freeN (q : List Int) : Nat := q.countP fun x => decide (0 ≤ x)
theorem freeN_set {q : List Int} {m : Nat} (h : m < q.length) (h0 : 0 ≤ q.getD m 0) : freeN (q.set m (-1)) + 1 = freeN q := by
  have e : q.getD m 0 = q[m] := by simp [h]
  rw [e] at h0
  unfold freeN
  have h1 := List.countP_set (p := fun x => decide (0 ≤ x)) (a := (-1 : Int)) h
  have h2 : 0 < q.countP fun x => decide (0 ≤ x) := List.countP_pos_iff.2 ⟨q[m], by simp, by simpa using h0⟩
  rw [h1]
  simp [h0]
  omega
theorem freeN_none {q : List Int} (h : ∀ j, j < q.length → q.getD j 0 < 0) : freeN q = 0 := by
  unfold freeN
  rw [List.countP_eq_zero]
  intro x hx
  obtain ⟨i, hi, rfl⟩ := List.mem_iff_getElem.1 hx
  have := h i hi
  have e : q.getD i 0 = q[i] := by simp [hi]
  rw [e] at this
  simp; omega
theorem freeN_all {q : List Int} (h : ∀ x ∈ q, 0 ≤ x) : freeN q = q.length := by
  unfold freeN
  rw [List.countP_eq_length]
  intro x hx
  simpa using h x hx
theorem SelOk.snoc {l S : List (Int × Nat)} (h : SelOk l S) (hl : ∀ i (h : i < l.length), l[i].2 = i) (h0 : ∀ p ∈ l, 0 ≤ p.1) {m : Nat} (hm : m < l.length) (hb : Best (RL l S) l.length m) : SelOk l (S ++ [l[m]]) ∧ 0 ≤ (RL l S).getD m 0 := by
  rcases hb with ⟨hb, _⟩ | ⟨m', e, h2, h3, h4⟩
  · omega
  have e : m' = m := by omega
  subst e
  have hg := RL_get (S := S) hm (hl m' hm)
  have hns : m' ∉ S.map (·.2) := fun hh => by rw [hg, if_pos hh] at h3; omega
  rw [if_neg hns] at hg
  refine ⟨⟨?_, ?_, ?_, ?_⟩, h3⟩
  · rw [List.pairwise_append]
    refine ⟨h.pw, by simp, fun a ha b hb => ?_⟩
    simp at hb
    subst hb
    exact h.top a ha _ (by simp) (by rw [hl m' hm]; exact hns)
  · intro s hs
    rcases List.mem_append.1 hs with hs | hs
    · exact h.mem s hs
    · simp at hs; subst hs; simp
  · intro s hs p hp hpn
    simp only [List.map_append, List.mem_append, not_or, List.map_cons, List.map_nil, List.mem_singleton] at hpn
    rcases List.mem_append.1 hs with hs | hs
    · exact h.top s hs p hp hpn.1
    · simp at hs
      subst hs
      obtain ⟨j, hj, rfl⟩ := List.mem_iff_getElem.1 hp
      rw [hl j hj, hl m' hm] at hpn
      have hgj := RL_get (S := S) hj (hl j hj)
      rw [if_neg hpn.1] at hgj
      have := h4 j hj (by rw [hgj]; exact h0 _ (by simp))
      rw [hgj, hg] at this
      unfold RR
      rw [hl j hj, hl m' hm]
      omega
  · rw [List.map_append, List.nodup_append]
    refine ⟨h.nd, by simp, fun a ha b hb => ?_⟩
    simp at hb
    rw [hl m' hm] at hb
    subst hb
    intro e
    subst e
    exact hns ha
theorem give_app (outs : List Int) (S : List (Int × Nat)) (p : Int × Nat) : give outs (S ++ [p]) = (give outs S).set p.2 ((give outs S).getD p.2 0 + 1) := by
  unfold give
  rw [List.foldl_append]; rfl
/-- The document's share. -/
def RVals (fare : Int) (W : List Int) (vals : List Int) : Prop := ∃ S, SelOk (rl fare W.sum W) S ∧ S.length = (leftOf fare W.sum W).toNat ∧ vals = give (whs fare W.sum W) S

-- << rShare_c
theorem rShare_c {c : Cx} {g : Heap} {w : World} {F : List Asn} {s : Sl} {xs : List (IK .u32)} (t : Int) (ht : 0 ≤ t ∧ t ≤ 1125899906842624) (hs : SlR g (IK.v (k := .u32)) 1 s xs) (h1 : 1 ≤ xs.length) (h2 : xs.length < 20) (hw : ∀ x ∈ xs, 1 ≤ x.n) (H : Holds c g w F) :
    Calls Tryz.prog 107 #[.int .i64 t, s.v] w (Ret fun v w' => ∃ (s' : Sl) (g' : Heap) (vals : List Int), v = .tuple #[s'.v, .int .i64 0] ∧ RVals t (xs.map (fun x => x.n)) vals ∧ Le g g' ∧ SlR g' encI 1 s' vals ∧ vals.length = xs.length ∧ Holds c g' w' F) := by
  have H : Holds c g w ([] ++ F) := H
  have hlen := hs.len
  have hM : inM t = true := inM_iff.2 ⟨by omega, by omega⟩
  obtain ⟨W, hW⟩ : ∃ W, W = xs.map (fun x => x.n) := ⟨_, rfl⟩
  have hWl : W.length = xs.length := by rw [hW, List.length_map]
  have hWk : ∀ k (h : k < xs.length), W[k]'(by omega) = xs[k].n := fun k h => by subst hW; simp
  have hWb : ∀ x ∈ W, 1 ≤ x ∧ x ≤ 4294967295 := fun x hx => by
    rw [hW] at hx
    obtain ⟨y, hy, rfl⟩ := List.mem_map.1 hx
    exact ⟨hw y hy, y.u32.2⟩
  have hW0 : ∀ x ∈ W, 0 ≤ x := fun x hx => by have := hWb x hx; omega
  have hWs : 1 ≤ W.sum := by
    have h := (le_sum hW0).2 W[0] (by simp)
    have := hWb W[0] (by simp)
    omega
  have hWt : ∀ k, k ≤ W.length → 0 ≤ (W.take k).sum ∧ (W.take k).sum ≤ (k : Nat) * 4294967295 := by
    intro k
    induction k with
    | zero => simp
    | succ k ih =>
      intro hk
      have := ih (by omega)
      have hx := hWb W[k] (by simp)
      rw [List.take_succ_eq_append_getElem (by omega), List.sum_append]
      simp only [List.sum_cons, List.sum_nil]
      push_cast
      omega
  have hWsum : W.sum ≤ 19 * 4294967295 := by
    have := hWt W.length (Nat.le_refl _)
    rw [List.take_length] at this
    omega
  have hpart : ∀ x ∈ W, 0 ≤ t * x / W.sum ∧ t * x / W.sum ≤ t := fun x hx => by
    have h3 := hW0 x hx
    have h4 := (le_sum hW0).2 x hx
    exact ⟨Int.ediv_nonneg (Int.mul_nonneg ht.1 h3) (by omega), Int.ediv_le_of_le_mul (by omega) (Int.mul_le_mul_of_nonneg_left h4 ht.1)⟩
  have hwhs : ∀ k, k ≤ W.length → 0 ≤ (whs t W.sum (W.take k)).sum ∧ (whs t W.sum (W.take k)).sum ≤ (k : Nat) * 1125899906842624 := by
    intro k
    induction k with
    | zero => simp [whs]
    | succ k ih =>
      intro hk
      have := ih (by omega)
      have hx := hpart W[k] (by simp)
      rw [whs_snoc _ _ (show k < W.length by omega), List.sum_append]
      simp only [List.sum_cons, List.sum_nil]
      push_cast
      omega
  -- tarmac/tarmacref06.Share  (function 107; params ['2', '171']; results tmp:4 tmp:5; ntmps 113)
  refine calls_of_wpF Tryz.func107 rfl Tryz.ntmps107 rfl ?_
  refine wpF_seq ?_
  refine wpF_region rfl ?_   -- R0
  refine wpO_val rfl (x_assignL rfl) ?_
  refine wpO_val rfl (x_assignI rfl) ?_
  refine wpO_nil ?_
  refine wpF_seq ?_
  refine wpF_seq ?_
  refine wpF_region rfl ?_   -- R1
  refine wpO_val rfl (x_moveL rfl) ?_
  refine wpO_val rfl (x_lenSl Tryz.underlying171 rfl) ?_
  refine wpO_val rfl (x_cmp rfl rfl rfl rfl) ?_
  refine wpO_nil ?_
  refine wpF_cond _ rfl (fun hc => absurd hc (by simp [hlen]; omega)) (fun hc => ?_)
  ·
    refine wpF_skip ?_
    refine wpF_seq ?_
    refine wpF_region rfl ?_   -- R3
    refine wpO_val rfl (x_assignI rfl) ?_
    refine wpO_nil ?_
    refine wpF_seq ?_
    refine wpF_seq ?_
    refine wpF_region rfl ?_   -- R4
    refine wpO_val rfl (x_assignI rfl) ?_
    refine wpO_nil ?_
    refine wpF_block ?_   -- block 0
    refine wpF_loop (fun q f w => ∃ (k : Nat) (f0 : Fr), (k ≤ xs.length ∧ q = xs.length - k) ∧ Holds c g w ([] ++ F) ∧ f = updL f0 [(0, .int .i64 t), (1, s.v), (6, .int .i64 (W.take k).sum), (7, .int .i64 (k : Nat))]) xs.length ?_ ?_
    · exact ⟨0, _, ⟨by omega, by omega⟩, H, updL_eta ⟨rfl, rfl, rfl, rfl, trivial⟩⟩
    · rintro q f w ⟨k, f0, ⟨hk, hn⟩, H, rfl⟩
      refine wpF_seq ?_
      refine wpF_seq ?_
      refine wpF_region rfl ?_   -- R5
      refine wpO_val rfl (x_moveI rfl) ?_
      refine wpO_val rfl (x_moveL rfl) ?_
      refine wpO_val rfl (x_lenSl Tryz.underlying171 rfl) ?_
      refine wpO_val rfl (x_cmp rfl rfl rfl rfl) ?_
      refine wpO_nil ?_
      refine wpF_cond _ rfl (fun hc23 => ?_) (fun hc23 => ?_)
      ·
        have hk' : k < xs.length := by rw [← hlen]; simpa using hc23
        refine wpF_skip ?_
        refine wpF_seq ?_
        refine wpF_block ?_   -- block 1
        refine wpF_region rfl ?_   -- R7
        refine wpO_val rfl (x_moveI rfl) ?_
        refine wpO_val rfl (x_moveL rfl) ?_
        refine wpO_val rfl (x_moveI rfl) ?_
        refine wpO_val rfl (x_indexEl hs Tryz.underlying171 Tryz.sizeOf29 rfl rfl (by omega) (by omega)) ?_
        refine wpO_val rfl (x_loadEl eluint32 hs H rfl (List.getElem?_eq_getElem hk')) ?_
        refine wpO_val rfl (x_conv Tryz.underlying29 Tryz.underlying2 rfl) ?_
        refine wpO_val rfl (x_arithV (W.take (k + 1)).sum rfl rfl (by
          show IntKind.i64.wrap ((W.take k).sum + IntKind.i64.wrap xs[k].n) = _
          have hx := xs[k].u32
          have hs1 := hWt k (by omega)
          rw [w64 (n := xs[k].n) (by omega) (by omega), w64 (by omega) (by omega), List.take_succ_eq_append_getElem (by omega), List.sum_append, hWk k hk']
          simp)) ?_
        refine wpO_val rfl (x_assignI rfl) ?_
        refine wpO_nil ?_
        refine wpF_region rfl ?_   -- R6
        refine wpO_val rfl (x_moveI rfl) ?_
        refine wpO_val rfl (x_arith rfl rfl (fun _ => rfl) rfl) ?_
        refine wpO_val rfl (x_assignI rfl) ?_
        refine wpO_nil ?_
        refine ⟨xs.length - (k + 1), by omega, k + 1, _, ⟨by omega, rfl⟩, H, updL_eta ⟨rfl, rfl, rfl, vi64 (w64 (by omega) (by omega)), trivial⟩⟩
      ·
        have hk2 : k = xs.length := by have h3 : ¬ (k : Int) < xs.length := (by rw [← hlen]; simpa using hc23); omega
        subst hk2
        refine wpF_exit ?_   -- exit 0
        refine wpF_seq ?_
        refine wpF_seq ?_
        refine wpF_region rfl ?_   -- R8
        refine wpO_val rfl (x_moveI rfl) ?_
        refine wpO_val rfl (x_cmp rfl rfl rfl rfl) ?_
        refine wpO_nil ?_
        refine wpF_cond _ rfl (fun hc => absurd hc (by rw [← hWl, List.take_length]; simp; omega)) (fun hc => ?_)
        ·
          refine wpF_skip ?_
          refine wpF_seq ?_
          refine wpF_seq ?_
          refine wpF_region rfl ?_   -- R10
          refine wpO_val rfl (x_moveI rfl) ?_
          refine wpO_val rfl (x_cmp rfl rfl rfl rfl) ?_
          refine wpO_val rfl (x_moveB rfl) ?_
          refine wpO_split 37 rfl (fun hb37 => ?_) (fun hb37 => ?_)
          ·
            refine wpO_not rfl ?_
            refine wpO_not rfl ?_
            refine wpO_not rfl ?_
            refine wpO_val rfl (x_pickB rfl rfl) ?_
            refine wpO_nil ?_
            exfalso; simp at hb37; omega
          ·
            refine wpO_val rfl (x_moveI rfl) ?_
            refine wpO_eff rfl (e_callF (vs := [.int .i64 t]) Tryz.call135 rfl ((rMay_c t H).mono (Ret.mono ?_)))
            rintro v39 w ⟨rfl, H'⟩
            replace H := H.re H' rfl
            refine wpO_val rfl (x_not rfl) ?_
            refine wpO_val rfl (x_pickB rfl rfl) ?_
            refine wpO_nil ?_
            refine wpF_cond _ rfl (fun hc => absurd hc (by simp [hM])) (fun hc => ?_)
            ·
              refine wpF_skip ?_
              refine wpF_seq ?_
              refine wpF_region rfl ?_   -- R12
              refine wpO_val rfl (x_assignL rfl) ?_
              refine wpO_val rfl (x_assignL rfl) ?_
              refine wpO_nil ?_
              refine wpF_seq ?_
              refine wpF_region rfl ?_   -- R13
              refine wpO_val rfl (x_moveI rfl) ?_
              refine wpO_val rfl (x_assignI rfl) ?_
              refine wpO_nil ?_
              refine wpF_seq ?_
              refine wpF_seq ?_
              refine wpF_region rfl ?_   -- R14
              refine wpO_val rfl (x_assignI rfl) ?_
              refine wpO_nil ?_
              refine wpF_block ?_   -- block 2
              rw [← hWl, List.take_length]
              have H := (H.nilRowAt (E := 2) (m := 1)).nilRowAt (E := 2) (m := 1)
              refine wpF_loop (fun q f w => ∃ (k : Nat) (s9 s10 : Sl) (f0 : Fr), (k ≤ xs.length ∧ q = xs.length - k ∧ s9.len = k ∧ s10.len = k ∧ (0 < k → (∃ b, s9.a = some ⟨b, 0, none⟩) ∧ ∃ b, s10.a = some ⟨b, 0, none⟩)) ∧ Holds c g w ([rowO s9 (whs t W.sum (W.take k)), rowO s10 ((rl t W.sum (W.take k)).map (·.1))] ++ F) ∧ f = updL f0 [(0, .int .i64 t), (1, s.v), (6, .int .i64 W.sum), (8, s9.v), (9, s10.v), (10, .int .i64 (leftOf t W.sum (W.take k))), (11, .int .i64 (k : Nat))]) xs.length ?_ ?_
              · exact ⟨0, Sl.nil, Sl.nil, _, ⟨by omega, by omega, rfl, rfl, fun h => by omega⟩, H, updL_eta ⟨rfl, rfl, rfl, rfl, rfl, vi64 (by simp [leftOf, whs]), rfl, trivial⟩⟩
              · rintro q f w ⟨k, s9, s10, f0, ⟨hk, hn, hl9, hl10, hsm⟩, H, rfl⟩
                refine wpF_seq ?_
                refine wpF_seq ?_
                refine wpF_region rfl ?_   -- R15
                refine wpO_val rfl (x_moveI rfl) ?_
                refine wpO_val rfl (x_moveL rfl) ?_
                refine wpO_val rfl (x_lenSl Tryz.underlying171 rfl) ?_
                refine wpO_val rfl (x_cmp rfl rfl rfl rfl) ?_
                refine wpO_nil ?_
                refine wpF_cond _ rfl (fun hc46 => ?_) (fun hc46 => ?_)
                ·
                  have hk' : k < xs.length := by rw [← hlen]; simpa using hc46
                  have hxk := xs[k].u32
                  have hwk : IntKind.i64.wrap xs[k].n = W[k] := by rw [hWk k hk']; exact w64 (by omega) (by omega)
                  have hwm : W[k] ≤ W.sum := (le_sum hW0).2 _ (by simp)
                  have hw0 := hW0 W[k] (by simp)
                  refine wpF_skip ?_
                  refine wpF_seq ?_
                  refine wpF_block ?_   -- block 3
                  refine wpF_seq ?_
                  refine wpF_region rfl ?_   -- R17
                  refine wpO_val rfl (x_moveI rfl) ?_
                  refine wpO_val rfl (x_moveL rfl) ?_
                  refine wpO_val rfl (x_moveI rfl) ?_
                  refine wpO_val rfl (x_indexEl hs Tryz.underlying171 Tryz.sizeOf29 rfl rfl (by omega) (by omega)) ?_
                  refine wpO_val rfl (x_loadEl eluint32 hs H rfl (List.getElem?_eq_getElem hk')) ?_
                  refine wpO_val rfl (x_conv Tryz.underlying29 Tryz.underlying2 rfl) ?_
                  refine wpO_val rfl (x_moveI rfl) ?_
                  rw [hwk]
                  refine wpO_eff rfl (e_callF (vs := [.int .i64 t, .int .i64 W[k], .int .i64 W.sum]) Tryz.call136 rfl ((rPart_c t W[k] W.sum ht ⟨hw0, hwm⟩ ⟨hWs, by omega⟩ H).mono (Ret.mono ?_)))
                  rintro v57 w ⟨rfl, H'⟩
                  replace H := H.re H' rfl
                  refine wpO_val rfl (x_moveT rfl) ?_
                  refine wpO_val rfl (x_extractI rfl rfl) ?_
                  refine wpO_val rfl (x_extractI rfl rfl) ?_
                  refine wpO_val rfl (x_extractI rfl rfl) ?_
                  refine wpO_val rfl (x_assignI rfl) ?_
                  refine wpO_val rfl (x_assignI rfl) ?_
                  refine wpO_val rfl (x_assignI rfl) ?_
                  refine wpO_nil ?_
                  refine wpF_seq ?_
                  refine wpF_region rfl ?_   -- R18
                  refine wpO_val rfl (x_moveL rfl) ?_
                  refine wpO_val rfl (x_moveI rfl) ?_
                  refine wpO_eff rfl (e_buildSlice H Tryz.underlying60 Tryz.sizeOf2 Tryz.zeroValue2 rfl rfl (vs := [encI (t * W[k] / W.sum)]) rfl rfl (cs := [encI (t * W[k] / W.sum)]) rfl fun b63 w H => ?_)
                  refine wpO_eff rfl (e_append1 (enc := encI) (t * W[k] / W.sum) H 0 2 rfl rfl Tryz.underlying60 isint64 rfl rfl rfl rfl (by omega) (by omega) fun s64 w hs64 hn64 H => ?_)
                  refine wpO_val rfl (x_assignL rfl) ?_
                  refine wpO_nil ?_
                  refine wpF_seq ?_
                  refine wpF_region rfl ?_   -- R19
                  refine wpO_val rfl (x_moveL rfl) ?_
                  refine wpO_val rfl (x_moveI rfl) ?_
                  refine wpO_eff rfl (e_buildSlice H Tryz.underlying60 Tryz.sizeOf2 Tryz.zeroValue2 rfl rfl (vs := [encI (t * W[k] % W.sum)]) rfl rfl (cs := [encI (t * W[k] % W.sum)]) rfl fun b67 w H => ?_)
                  refine wpO_eff rfl (e_append1 (enc := encI) (t * W[k] % W.sum) H 1 3 rfl rfl Tryz.underlying60 isint64 rfl rfl rfl rfl (by omega) (by omega) fun s68 w hs68 hn68 H => ?_)
                  refine wpO_val rfl (x_assignL rfl) ?_
                  refine wpO_nil ?_
                  refine wpF_region rfl ?_   -- R20
                  refine wpO_val rfl (x_moveI rfl) ?_
                  refine wpO_val rfl (x_moveI rfl) ?_
                  refine wpO_val rfl (x_arithV (leftOf t W.sum (W.take (k + 1))) rfl rfl (by
                    show IntKind.i64.wrap (leftOf t W.sum (W.take k) - t * W[k] / W.sum) = _
                    have hp := hpart W[k] (by simp)
                    have hs1 := hwhs k (by omega)
                    unfold leftOf
                    rw [w64 (by omega) (by omega), whs_snoc _ _ (show k < W.length by omega), List.sum_append]
                    simp; omega)) ?_
                  refine wpO_val rfl (x_assignI rfl) ?_
                  refine wpO_nil ?_
                  refine wpF_region rfl ?_   -- R16
                  refine wpO_val rfl (x_moveI rfl) ?_
                  refine wpO_val rfl (x_arith rfl rfl (fun _ => rfl) rfl) ?_
                  refine wpO_val rfl (x_assignI rfl) ?_
                  refine wpO_nil ?_
                  have H : Holds c g w ([rowO s64 (whs t W.sum (W.take (k + 1))), rowO s68 ((rl t W.sum (W.take (k + 1))).map (·.1))] ++ F) := by
                    rw [whs_snoc _ _ (show k < W.length by omega), rl_snoc _ _ (show k < W.length by omega), List.map_append]
                    exact H.sel [0, 1] 4 rfl rfl
                  exact ⟨xs.length - (k + 1), by omega, k + 1, s64, s68, _, ⟨by omega, rfl, by omega, by omega, fun _ => ⟨hn64, hn68⟩⟩, H, updL_eta ⟨rfl, rfl, rfl, rfl, rfl, rfl, vi64 (w64 (by omega) (by omega)), trivial⟩⟩
                ·
                  have hk2 : k = xs.length := by have h3 : ¬ (k : Int) < xs.length := (by rw [← hlen]; simpa using hc46); omega
                  subst hk2
                  obtain ⟨⟨b9, hb9⟩, ⟨b10, hb10⟩⟩ := hsm (by omega)
                  obtain ⟨a9, n9, cp9⟩ := s9
                  obtain ⟨a10, n10, cp10⟩ := s10
                  simp only at hb9 hb10 hl9 hl10
                  subst hb9; subst hb10; subst hl9; subst hl10
                  rw [← hWl, List.take_length] at H ⊢
                  have hrl := rl_len t W.sum W
                  have hlb := leftOf_bounds ht.1 hWs rfl hW0
                  obtain ⟨l, hl⟩ : ∃ l : Nat, leftOf t W.sum W = l := ⟨_, (Int.toNat_of_nonneg hlb.1).symm⟩
                  have hlg : ∀ i (h : i < (rl t W.sum W).length), (rl t W.sum W)[i].2 = i := fun i h => rl_get _ _ _ _ h
                  have hl0 : ∀ p ∈ rl t W.sum W, 0 ≤ p.1 ∧ p.1 < W.sum := fun p hp => by
                    obtain ⟨q, _, rfl⟩ := List.mem_map.1 hp
                    exact ⟨Int.emod_nonneg _ (by omega), Int.emod_lt_of_pos _ (by omega)⟩
                  rw [hl]
                  refine wpF_exit ?_   -- exit 2
                  refine wpF_seq ?_
                  refine wpF_block ?_   -- block 4
                  refine wpF_loop (fun q f w => ∃ (S : List (Int × Nat)) (f0 : Fr), (q + S.length = l ∧ SelOk (rl t W.sum W) S ∧ q ≤ freeN (RL (rl t W.sum W) S)) ∧ Holds c g w ([rowO ⟨some ⟨b9, 0, none⟩, W.length, cp9⟩ (give (whs t W.sum W) S), rowO ⟨some ⟨b10, 0, none⟩, W.length, cp10⟩ (RL (rl t W.sum W) S)] ++ F) ∧ f = updL f0 [(8, .slice (some ⟨b9, 0, none⟩) W.length cp9), (9, .slice (some ⟨b10, 0, none⟩) W.length cp10), (10, .int .i64 (q : Nat))]) l ?_ ?_
                  · refine ⟨[], _, ⟨by simp, .nil _, ?_⟩, by rw [RL_nil]; exact H, updL_eta ⟨rfl, rfl, rfl, trivial⟩⟩
                    rw [RL_nil, freeN_all (fun x hx => by obtain ⟨p, hp, rfl⟩ := List.mem_map.1 hx; exact (hl0 p hp).1), List.length_map, hrl]
                    omega
                  · rintro q f w ⟨S, f0, ⟨hq, hsel, hfree⟩, H, rfl⟩
                    refine wpF_seq ?_
                    refine wpF_seq ?_
                    refine wpF_region rfl ?_   -- R21
                    refine wpO_val rfl (x_moveI rfl) ?_
                    refine wpO_val rfl (x_cmp rfl rfl rfl rfl) ?_
                    refine wpO_nil ?_
                    refine wpF_cond _ rfl (fun hc73 => ?_) (fun hc73 => ?_)
                    ·
                      have hq0 : 0 < q := by simpa using hc73
                      obtain ⟨Q, hQ⟩ : ∃ Q, Q = RL (rl t W.sum W) S := ⟨_, rfl⟩
                      have hQl : Q.length = W.length := by rw [hQ, RL_len, hrl]
                      rw [← hQ] at H hfree
                      refine wpF_skip ?_
                      refine wpF_block ?_   -- block 5
                      refine wpF_seq ?_
                      refine wpF_region rfl ?_   -- R22
                      refine wpO_val rfl (x_assignI rfl) ?_
                      refine wpO_nil ?_
                      refine wpF_seq ?_
                      refine wpF_seq ?_
                      refine wpF_region rfl ?_   -- R23
                      refine wpO_val rfl (x_assignI rfl) ?_
                      refine wpO_nil ?_
                      refine wpF_block ?_   -- block 6
                      refine wpF_loop (fun p f w => ∃ (k : Nat) (bb : Int) (f0 : Fr), (k ≤ W.length ∧ p = W.length - k ∧ Best Q k bb) ∧ Holds c g w ([rowO ⟨some ⟨b9, 0, none⟩, W.length, cp9⟩ (give (whs t W.sum W) S), rowO ⟨some ⟨b10, 0, none⟩, W.length, cp10⟩ Q] ++ F) ∧ f = updL f0 [(8, .slice (some ⟨b9, 0, none⟩) W.length cp9), (9, .slice (some ⟨b10, 0, none⟩) W.length cp10), (10, .int .i64 (q : Nat)), (15, .int .i64 bb), (16, .int .i64 (k : Nat))]) W.length ?_ ?_
                      · exact ⟨0, -1, _, ⟨by omega, by omega, Best.start _⟩, H, updL_eta ⟨rfl, rfl, rfl, rfl, rfl, trivial⟩⟩
                      · rintro p f w ⟨k, bb, f0, ⟨hk, hp, hbest⟩, H, rfl⟩
                        refine wpF_seq ?_
                        refine wpF_seq ?_
                        refine wpF_region rfl ?_   -- R24
                        refine wpO_val rfl (x_moveI rfl) ?_
                        refine wpO_val rfl (x_moveL rfl) ?_
                        refine wpO_val rfl (x_lenSl Tryz.underlying60 rfl) ?_
                        refine wpO_val rfl (x_cmp rfl rfl rfl rfl) ?_
                        refine wpO_nil ?_
                        refine wpF_cond _ rfl (fun hc77 => ?_) (fun hc77 => ?_)
                        ·
                          have hk' : k < W.length := by simpa using hc77
                          have hkq : Q[k]? = some (Q.getD k 0) := by rw [List.getD_eq_getElem?_getD, List.getElem?_eq_getElem (by omega)]; rfl
                          refine wpF_skip ?_
                          refine wpF_seq ?_
                          refine wpF_block ?_   -- block 7
                          refine wpF_seq ?_
                          refine wpF_drawC [0, 1, 2, 3, 4, 5, 6, 7, 8, 9, 10, 11, 12, 13, 14, 15, 16, 17, 18, 19] [] [0, 0, 0, 0, 0, 0, 0, 0, 0, 0, 0, 0, 0, 0, 0, 0, 0, 0, 0, 0] (fun _ _ => True) mixed (by kernel_rfl) rfl fun w hw => ?_   -- R26 DRAWS []
                          have H := H.to hw
                          refine wpDC_e rfl rfl rfl rfl (x_moveL rfl) ?_
                          refine wpDC_e rfl rfl rfl rfl (x_moveI rfl) ?_
                          refine wpDC_e rfl rfl rfl rfl (x_indexSl Tryz.underlying60 Tryz.sizeOf2 rfl rfl (by omega) (by omega)) ?_
                          refine wpDC_e rfl rfl rfl rfl (x_loadRow H 1 rfl elint64 rfl hkq) ?_
                          refine wpDC_e rfl rfl rfl rfl (x_cmp rfl rfl rfl rfl) ?_
                          refine wpDC_e rfl rfl rfl rfl (x_moveB rfl) ?_
                          refine wpDC_split 85 rfl (fun hb85 => ?_) (fun hb85 => ?_)
                          ·
                            refine wpDC_e rfl rfl rfl rfl (x_moveI rfl) ?_
                            refine wpDC_e rfl rfl rfl rfl (x_cmp rfl rfl rfl rfl) ?_
                            refine wpDC_e rfl rfl rfl rfl (x_moveB rfl) ?_
                            refine wpDC_split 88 rfl (fun hb88 => ?_) (fun hb88 => ?_)
                            ·
                              refine wpDC_not rfl rfl rfl ?_
                              refine wpDC_not rfl rfl rfl ?_
                              refine wpDC_not rfl rfl rfl ?_
                              refine wpDC_not rfl rfl rfl ?_
                              refine wpDC_not rfl rfl rfl ?_
                              refine wpDC_not rfl rfl rfl ?_
                              refine wpDC_not rfl rfl rfl ?_
                              refine wpDC_not rfl rfl rfl ?_
                              refine wpDC_not rfl rfl rfl ?_
                              refine wpDC_e rfl rfl rfl rfl (x_pickB rfl rfl) ?_
                              refine wpDC_e rfl rfl rfl rfl (x_pickB rfl rfl) ?_
                              refine wpDC_nil ?_
                              refine wpF_true rfl ?_
                              refine wpF_region rfl ?_   -- R27
                              refine wpO_val rfl (x_moveI rfl) ?_
                              refine wpO_val rfl (x_assignI rfl) ?_
                              refine wpO_nil ?_
                              refine wpF_region rfl ?_   -- R25
                              refine wpO_val rfl (x_moveI rfl) ?_
                              refine wpO_val rfl (x_arith rfl rfl (fun _ => rfl) rfl) ?_
                              refine wpO_val rfl (x_assignI rfl) ?_
                              refine wpO_nil ?_
                              have h85 : 0 ≤ Q.getD k 0 := by simpa using hb85
                              have h88 : bb < 0 := by simpa using hb88
                              exact ⟨W.length - (k + 1), by omega, k + 1, k, _, ⟨by omega, rfl, hbest.take h85 (.inl h88)⟩, H, updL_eta ⟨rfl, rfl, rfl, rfl, vi64 (w64 (by omega) (by omega)), trivial⟩⟩
                            ·
                              have h85 : 0 ≤ Q.getD k 0 := by simpa using hb85
                              have h88 : 0 ≤ bb := by simpa using hb88
                              have hbk : bb < k := by rcases hbest with ⟨h, _⟩ | ⟨m, h, hm, _⟩ <;> omega
                              have hbq : Q[bb.toNat]? = some (Q.getD bb.toNat 0) := by rw [List.getD_eq_getElem?_getD, List.getElem?_eq_getElem (by omega)]; rfl
                              refine wpDC_e rfl rfl rfl rfl (x_moveL rfl) ?_
                              refine wpDC_e rfl rfl rfl rfl (x_moveI rfl) ?_
                              refine wpDC_e rfl rfl rfl rfl (x_indexSl Tryz.underlying60 Tryz.sizeOf2 rfl rfl (by omega) (by omega)) ?_
                              refine wpDC_e rfl rfl rfl rfl (x_loadRow H 1 rfl elint64 rfl hkq) ?_
                              refine wpDC_e rfl rfl rfl rfl (x_moveL rfl) ?_
                              refine wpDC_e rfl rfl rfl rfl (x_moveI rfl) ?_
                              refine wpDC_e rfl rfl rfl rfl (x_indexSl Tryz.underlying60 Tryz.sizeOf2 rfl rfl (by omega) (by omega)) ?_
                              refine wpDC_e rfl rfl rfl rfl (x_loadRow H 1 rfl elint64 rfl hbq) ?_
                              refine wpDC_e rfl rfl rfl rfl (x_cmp rfl rfl rfl rfl) ?_
                              refine wpDC_e rfl rfl rfl rfl (x_pickB rfl rfl) ?_
                              refine wpDC_e rfl rfl rfl rfl (x_pickB rfl rfl) ?_
                              refine wpDC_nil ?_
                              refine wpF_cond _ rfl (fun hc99 => ?_) (fun hc99 => ?_)
                              ·
                                refine wpF_region rfl ?_   -- R27
                                refine wpO_val rfl (x_moveI rfl) ?_
                                refine wpO_val rfl (x_assignI rfl) ?_
                                refine wpO_nil ?_
                                refine wpF_region rfl ?_   -- R25
                                refine wpO_val rfl (x_moveI rfl) ?_
                                refine wpO_val rfl (x_arith rfl rfl (fun _ => rfl) rfl) ?_
                                refine wpO_val rfl (x_assignI rfl) ?_
                                refine wpO_nil ?_
                                have h99 : Q.getD bb.toNat 0 < Q.getD k 0 := by simpa using hc99
                                exact ⟨W.length - (k + 1), by omega, k + 1, k, _, ⟨by omega, rfl, hbest.take h85 (.inr h99)⟩, H, updL_eta ⟨rfl, rfl, rfl, rfl, vi64 (w64 (by omega) (by omega)), trivial⟩⟩
                              ·
                                refine wpF_skip ?_
                                refine wpF_region rfl ?_   -- R25
                                refine wpO_val rfl (x_moveI rfl) ?_
                                refine wpO_val rfl (x_arith rfl rfl (fun _ => rfl) rfl) ?_
                                refine wpO_val rfl (x_assignI rfl) ?_
                                refine wpO_nil ?_
                                have h99 : Q.getD k 0 ≤ Q.getD bb.toNat 0 := by simpa using hc99
                                exact ⟨W.length - (k + 1), by omega, k + 1, bb, _, ⟨by omega, rfl, hbest.skip (.inr ⟨h88, h99⟩)⟩, H, updL_eta ⟨rfl, rfl, rfl, rfl, vi64 (w64 (by omega) (by omega)), trivial⟩⟩
                          ·
                            refine wpDC_not rfl rfl rfl ?_
                            refine wpDC_not rfl rfl rfl ?_
                            refine wpDC_not rfl rfl rfl ?_
                            refine wpDC_not rfl rfl rfl ?_
                            refine wpDC_not rfl rfl rfl ?_
                            refine wpDC_not rfl rfl rfl ?_
                            refine wpDC_not rfl rfl rfl ?_
                            refine wpDC_not rfl rfl rfl ?_
                            refine wpDC_not rfl rfl rfl ?_
                            refine wpDC_not rfl rfl rfl ?_
                            refine wpDC_not rfl rfl rfl ?_
                            refine wpDC_not rfl rfl rfl ?_
                            refine wpDC_not rfl rfl rfl ?_
                            refine wpDC_e rfl rfl rfl rfl (x_pickB rfl rfl) ?_
                            refine wpDC_nil ?_
                            refine wpF_false rfl ?_
                            refine wpF_skip ?_
                            refine wpF_region rfl ?_   -- R25
                            refine wpO_val rfl (x_moveI rfl) ?_
                            refine wpO_val rfl (x_arith rfl rfl (fun _ => rfl) rfl) ?_
                            refine wpO_val rfl (x_assignI rfl) ?_
                            refine wpO_nil ?_
                            have h85 : Q.getD k 0 < 0 := by simpa using hb85
                            exact ⟨W.length - (k + 1), by omega, k + 1, bb, _, ⟨by omega, rfl, hbest.skip (.inl h85)⟩, H, updL_eta ⟨rfl, rfl, rfl, rfl, vi64 (w64 (by omega) (by omega)), trivial⟩⟩
                        ·
                          have hkl : k = W.length := by have h3 : ¬ (k : Int) < W.length := (by simpa using hc77); omega
                          subst hkl
                          obtain ⟨m, hbm, hml⟩ : ∃ m : Nat, bb = m ∧ m < W.length := by
                            rcases hbest with ⟨_, h⟩ | ⟨m, h, hm, _⟩
                            · have := freeN_none (q := Q) (fun j hj => h j (by omega)); omega
                            · exact ⟨m, h, hm⟩
                          subst hbm
                          have hmr : m < (rl t W.sum W).length := by omega
                          obtain ⟨hsel', hm0⟩ := hsel.snoc hlg (fun p hp => (hl0 p hp).1) hmr (by rw [hrl, ← hQ]; exact hbest)
                          have hf2 := freeN_set (q := Q) (m := m) (by omega) (by rw [hQ]; exact hm0)
                          have hQ2 : Q.set m (-1) = RL (rl t W.sum W) (S ++ [(rl t W.sum W)[m]]) := by rw [hQ, RL_snoc hmr hlg]
                          have hgl : (give (whs t W.sum W) S).length = W.length := by rw [give_len]; simp [whs]
                          obtain ⟨o, ho⟩ : ∃ o, o = (give (whs t W.sum W) S).getD m 0 := ⟨_, rfl⟩
                          have hog : (give (whs t W.sum W) S)[m]? = some o := by rw [ho, List.getD_eq_getElem?_getD, List.getElem?_eq_getElem (by omega)]; rfl
                          have hob : 0 ≤ o ∧ o ≤ 1125899906842624 + 0 + S.length := give_le (M := 1125899906842624) S (whs t W.sum W) 0 (fun x hx => by
                            obtain ⟨y, hy, rfl⟩ := List.mem_map.1 hx
                            have := hpart y hy; omega) (by omega) (by omega) o (List.mem_of_getElem? hog)
                          have hg2 : give (whs t W.sum W) (S ++ [(rl t W.sum W)[m]]) = (give (whs t W.sum W) S).set m (o + 1) := by rw [give_app, hlg m hmr, ← ho]
                          refine wpF_exit ?_   -- exit 6
                          refine wpF_seq ?_
                          refine wpF_region rfl ?_   -- R28
                          refine wpO_val rfl (x_moveL rfl) ?_
                          refine wpO_val rfl (x_moveI rfl) ?_
                          refine wpO_val rfl (x_indexSl Tryz.underlying60 Tryz.sizeOf2 rfl rfl (by omega) (by omega)) ?_
                          refine wpO_val rfl (x_loadRow H 0 rfl elint64 rfl hog) ?_
                          refine wpO_val rfl (x_arithV (o + 1) rfl rfl (w64 (n := o + 1) (by omega) (by omega))) ?_
                          refine wpO_val rfl (x_indexSl Tryz.underlying60 Tryz.sizeOf2 rfl rfl (by omega) (by omega)) ?_
                          refine wpO_eff0 rfl (e_storeRow (k := m) H 0 rfl elint64 (o + 1) rfl rfl (by omega) fun w H => ?_)
                          refine wpO_nil ?_
                          refine wpF_seq ?_
                          refine wpF_region rfl ?_   -- R29
                          refine wpO_val rfl (x_moveL rfl) ?_
                          refine wpO_val rfl (x_moveI rfl) ?_
                          refine wpO_val rfl (x_indexSl Tryz.underlying60 Tryz.sizeOf2 rfl rfl (by omega) (by omega)) ?_
                          refine wpO_eff0 rfl (e_storeRow (k := m) H 1 rfl elint64 (-1) rfl rfl (by omega) fun w H => ?_)
                          refine wpO_nil ?_
                          refine wpF_region rfl ?_   -- R30
                          refine wpO_val rfl (x_moveI rfl) ?_
                          refine wpO_val rfl (x_arith rfl rfl (fun _ => rfl) rfl) ?_
                          refine wpO_val rfl (x_assignI rfl) ?_
                          refine wpO_nil ?_
                          have H : Holds c g w ([rowO ⟨some ⟨b9, 0, none⟩, W.length, cp9⟩ (give (whs t W.sum W) (S ++ [(rl t W.sum W)[m]])), rowO ⟨some ⟨b10, 0, none⟩, W.length, cp10⟩ (RL (rl t W.sum W) (S ++ [(rl t W.sum W)[m]]))] ++ F) := by
                            rw [hg2, ← hQ2]
                            exact H.sel [0, 1] 2 rfl rfl
                          exact ⟨q - 1, by omega, _, _, ⟨by simp; omega, hsel', by rw [← hQ2]; omega⟩, H, updL_eta ⟨rfl, rfl, vi64 (by rw [w64 (by omega) (by omega)]; omega), trivial⟩⟩
                    ·
                      have hq0 : q = 0 := by have h3 : ¬ (0 : Int) < q := (by simpa using hc73); omega
                      subst hq0
                      refine wpF_exit ?_   -- exit 4
                      refine wpF_seq ?_
                      refine wpF_region rfl ?_   -- R31
                      refine wpO_val rfl (x_moveL rfl) ?_
                      refine wpO_val rfl (x_assignL rfl) ?_
                      refine wpO_val rfl (x_assignI rfl) ?_
                      refine wpO_nil ?_
                      refine wpF_ret ?_
                      repeat (with_reducible first | refine thenF_r ?_ | refine inBlockF_r ?_)
                      refine end_tt rfl rfl rfl ?_   -- tmp:4 tmp:5
                      obtain ⟨g', hle, H, hr⟩ := Holds.sealRow (enc := encI) (xs := give (whs t W.sum W) S) (show Holds c g w (rowA 2 1 ⟨some ⟨b9, 0, none⟩, W.length, cp9⟩ (flat encI (give (whs t W.sum W) S)) :: F) from H.sel [0] 2 rfl rfl) rfl (fun _ _ => rfl) (by decide)
                      exact ⟨_, g', _, rfl, ⟨S, by rw [← hW]; exact hsel, by rw [← hW, hl]; omega, by rw [← hW]⟩, hle, hr, by rw [give_len]; simp [whs, hWl], H⟩
-- >> rShare_c
end Go.Proofs.YtfoginganpgmcaaGreat
