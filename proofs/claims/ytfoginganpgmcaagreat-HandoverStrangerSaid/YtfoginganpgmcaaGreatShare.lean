/- prorate.Share: shares, and the sort of the rests. -/
import Derived.Test.YtfoginganpgmcaaGreatCoreR
import Derived.Test.YtfoginganpgmcaaGreatDocs
set_option linter.unusedSimpArgs false
set_option linter.unusedVariables false
namespace Go.Proofs.YtfoginganpgmcaaGreat
open Go Go.Tw
set_option maxRecDepth 100000

/-- A rest, and whose it is. -/
def encR (p : Int × Nat) : Value := .agg #[.int .i64 p.1, .int .i64 (p.2 : Nat)]
theorem elR : ElLaw Tryz.prog 199 encR 2 := ⟨Tryz.sizeOf199, .inl ⟨Tryz.isAgg199, fun _ => ⟨_, rfl⟩⟩, fun _ => rfl, fun _ => rfl⟩
theorem isR : El Tryz.prog 199 2 16 (.agg #[.int .i64 0, .int .i64 0]) := ⟨⟨Tryz.t199, by kernel_rfl, rfl, rfl, rfl⟩, rfl, by decide⟩
theorem stR : StLaw Tryz.prog 199 [(0, 1), (1, 1)] #[.int .i64 0, .int .i64 0] := fun parts => by kernel_rfl
def cmpI (a b : Int) : Int := if a < b then -1 else if a > b then 1 else 0

theorem cmpI_lt {a b : Int} : cmpI a b < 0 ↔ a < b := by
  by_cases h : a < b <;> by_cases h2 : a > b <;> simp [cmpI, h, h2]
/-- The order of the rests: the greater first, then by place. -/
def RR (x y : Int × Nat) : Prop := x.1 > y.1 ∨ (x.1 = y.1 ∧ x.2 < y.2)
def rowR (b n cp : Nat) (xs : List (Int × Nat)) : Asn := rowE 199 encR 2 ⟨some ⟨b, 0, none⟩, n, cp⟩ xs

def InsI (xs : List (Int × Nat)) (i j : Nat) (zs : List (Int × Nat)) : Prop :=
  ∃ P x S, zs = P ++ x :: (S ++ xs.drop (i + 1)) ∧ P.length = j ∧ xs[i]? = some x ∧ (P ++ S).Pairwise RR ∧ (P ++ S).Perm (xs.take i) ∧ ∀ s ∈ S, s.1 < x.1
def InsO (xs : List (Int × Nat)) (i : Nat) (zs : List (Int × Nat)) : Prop := ∃ P, zs = P ++ xs.drop i ∧ P.Pairwise RR ∧ P.Perm (xs.take i)
theorem ins_start {xs zs : List (Int × Nat)} {i : Nat} (h : InsO xs i zs) (hi : i < xs.length) : InsI xs i i zs := by
  obtain ⟨P, h1, h2, h3⟩ := h
  refine ⟨P, xs[i], [], ?_, ?_, by simp [hi], by simpa using h2, by simpa using h3, by simp⟩
  · rw [h1, List.drop_eq_getElem_cons hi]; rfl
  · rw [h3.length_eq, List.length_take]; omega
theorem ins_done {xs : List (Int × Nat)} {i : Nat} {P S : List (Int × Nat)} {x : Int × Nat} (hx : xs[i]? = some x) (h4 : (P ++ S).Pairwise RR) (h5 : (P ++ S).Perm (xs.take i)) (h6 : ∀ s ∈ S, s.1 < x.1) (h7 : ∀ p ∈ P, RR p x) :
    InsO xs (i + 1) (P ++ x :: (S ++ xs.drop (i + 1))) := by
  have hi : i < xs.length := (List.getElem?_eq_some_iff.1 hx).1
  have hxe : xs[i] = x := (List.getElem?_eq_some_iff.1 hx).2
  refine ⟨P ++ x :: S, by simp, ?_, ?_⟩
  · rw [List.pairwise_append] at h4 ⊢
    obtain ⟨a1, a2, a3⟩ := h4
    refine ⟨a1, List.pairwise_cons.2 ⟨fun s hs => .inl (h6 s hs), a2⟩, fun p hp y hy => ?_⟩
    rcases List.mem_cons.1 hy with rfl | hy
    · exact h7 p hp
    · exact a3 p hp y hy
  · rw [List.take_succ_eq_append_getElem hi, hxe]
    refine List.perm_middle.trans ?_
    refine (h5.cons x).trans ?_
    exact (List.perm_append_singleton _ _).symm
theorem ins_zero {xs zs : List (Int × Nat)} {i : Nat} (h : InsI xs i 0 zs) : InsO xs (i + 1) zs := by
  obtain ⟨P, x, S, h1, h2, h3, h4, h5, h6⟩ := h
  have : P = [] := List.length_eq_zero_iff.1 h2
  subst this
  rw [h1]
  exact ins_done h3 h4 h5 h6 (by simp)
theorem ins_get {xs zs : List (Int × Nat)} {i j : Nat} (hat : xs.Pairwise fun x y => x.2 < y.2) (h : InsI xs i (j + 1) zs) :
    ∃ p x, zs[j]? = some p ∧ zs[j + 1]? = some x ∧ (p.1 < x.1 → InsI xs i j ((zs.set (j + 1) p).set j x)) ∧ (¬ p.1 < x.1 → InsO xs (i + 1) zs) := by
  obtain ⟨P, x, S, h1, h2, h3, h4, h5, h6⟩ := h
  obtain ⟨P', p, rfl⟩ : ∃ P' p, P = P' ++ [p] := by
    have : P ≠ [] := fun e => by rw [e] at h2; simp at h2
    exact ⟨P.dropLast, P.getLast this, (List.dropLast_concat_getLast this).symm⟩
  have hl : P'.length = j := by simpa using h2
  subst hl
  refine ⟨p, x, by rw [h1]; simp, by rw [h1]; simp, fun hlt => ?_, fun hge => ?_⟩
  · refine ⟨P', x, p :: S, ?_, rfl, h3, by simpa using h4, by simpa using h5, ?_⟩
    · rw [h1]
      have e : P' ++ [p] ++ x :: (S ++ xs.drop (i + 1)) = P' ++ p :: x :: (S ++ xs.drop (i + 1)) := by simp
      rw [e]
      simp [List.set_append]
    · intro s hs
      rcases List.mem_cons.1 hs with rfl | hs
      · exact hlt
      · exact h6 s hs
  · rw [h1]
    refine ins_done h3 h4 h5 h6 fun q hq => ?_
    have hi : i < xs.length := (List.getElem?_eq_some_iff.1 h3).1
    have hxe : xs[i] = x := (List.getElem?_eq_some_iff.1 h3).2
    have hq2 : q.2 < x.2 := by
      have hm : q ∈ xs.take i := h5.mem_iff.1 (by simp only [List.mem_append]; exact .inl (by simpa using hq))
      obtain ⟨k, hk, hke⟩ := List.mem_iff_getElem.1 hm
      rw [List.getElem_take] at hke
      rw [← hke, ← hxe]
      simp only [List.length_take] at hk
      exact List.pairwise_iff_getElem.1 hat k i (by omega) hi (by omega)
    have hq1 : q.1 ≥ p.1 := by
      rcases List.mem_append.1 hq with hq | hq
      · rw [List.append_assoc] at h4
        have := (List.pairwise_append.1 h4).2.2 q hq p (by simp)
        unfold RR at this
        omega
      · have : q = p := by simpa using hq
        rw [this]; omega
    unfold RR
    omega
theorem ins_len {xs zs : List (Int × Nat)} {i j : Nat} (h : InsI xs i j zs) : zs.length = xs.length ∧ j ≤ i ∧ i < xs.length := by
  obtain ⟨P, x, S, h1, h2, h3, h4, h5, h6⟩ := h
  have hi : i < xs.length := (List.getElem?_eq_some_iff.1 h3).1
  have := h5.length_eq
  simp only [List.length_append, List.length_take] at this
  rw [h1]
  simp only [List.length_append, List.length_cons, List.length_drop]
  omega
-- << isNaN_c
theorem isNaN_c {c : Cx} {g : Heap} {w : World} {F : List Asn} (a : Int) (H : Holds c g w F) :
    Calls Tryz.prog 145 #[.int .i64 a] w (Ret fun v w' => v = .bool false ∧ Holds c g w' F) := by
  -- cmp.isNaN[int64]  (function 262; params ['2']; results tmp:2; ntmps 6)
  refine calls_of_wpF Tryz.func145 rfl Tryz.ntmps145 rfl ?_
  refine wpF_seq ?_
  refine wpF_region rfl ?_   -- R0
  refine wpO_val rfl (x_assignB rfl) ?_
  refine wpO_nil ?_
  refine wpF_seq ?_
  refine wpF_region rfl ?_   -- R1
  refine wpO_val rfl (x_moveI rfl) ?_
  refine wpO_val rfl (x_moveI rfl) ?_
  refine wpO_val rfl (x_cmp rfl rfl rfl rfl) ?_
  refine wpO_val rfl (x_assignB rfl) ?_
  refine wpO_nil ?_
  refine wpF_ret ?_
  repeat (with_reducible first | refine thenF_r ?_ | refine inBlockF_r ?_)
  refine end_t rfl rfl ?_   -- tmp:2
  exact ⟨bq (show false = (a != a) by simp), H⟩
-- >> isNaN_c
-- << compare_c
theorem compare_c {c : Cx} {g : Heap} {w : World} {F : List Asn} (a b : Int) (H : Holds c g w F) :
    Calls Tryz.prog 126 #[.int .i64 a, .int .i64 b] w (Ret fun v w' => v = .int .i64 (cmpI a b) ∧ Holds c g w' F) := by
  have H : Holds c g w ([] ++ F) := H
  -- cmp.Compare[int64]  (function 209; params ['2', '2']; results tmp:4; ntmps 20)
  refine calls_of_wpF Tryz.func126 rfl Tryz.ntmps126 rfl ?_
  refine wpF_seq ?_
  refine wpF_region rfl ?_   -- R0
  refine wpO_val rfl (x_assignI rfl) ?_
  refine wpO_nil ?_
  refine wpF_seq ?_
  refine wpF_region rfl ?_   -- R1
  refine wpO_val rfl (x_moveI rfl) ?_
  refine wpO_eff rfl (e_callF Tryz.call145 rfl ((isNaN_c _ H).mono (Ret.mono ?_)))   -- of t7
  rintro v8 w ⟨rfl, H'⟩
  replace H := H.re H' rfl
  refine wpO_val rfl (x_assignB rfl) ?_
  refine wpO_nil ?_
  refine wpF_seq ?_
  refine wpF_region rfl ?_   -- R2
  refine wpO_val rfl (x_moveI rfl) ?_
  refine wpO_eff rfl (e_callF Tryz.call145 rfl ((isNaN_c _ H).mono (Ret.mono ?_)))   -- of t9
  rintro v10 w ⟨rfl, H'⟩
  replace H := H.re H' rfl
  refine wpO_val rfl (x_assignB rfl) ?_
  refine wpO_nil ?_
  refine wpF_seq ?_
  refine wpF_seq ?_
  refine wpF_region rfl ?_   -- R3
  refine wpO_val rfl (x_moveB rfl) ?_
  refine wpO_nil ?_
  refine wpF_false rfl ?_
  ·
    refine wpF_skip ?_
    refine wpF_seq ?_
    refine wpF_seq ?_
    refine wpF_region rfl ?_   -- R7
    refine wpO_val rfl (x_moveB rfl) ?_
    refine wpO_nil ?_
    refine wpF_false rfl ?_
    ·
      refine wpF_skip ?_
      refine wpF_seq ?_
      refine wpF_seq ?_
      refine wpF_region rfl ?_   -- R9
      refine wpO_val rfl (x_moveI rfl) ?_
      refine wpO_val rfl (x_moveI rfl) ?_
      refine wpO_val rfl (x_cmp rfl rfl rfl rfl) ?_
      refine wpO_nil ?_
      refine wpF_cond _ rfl (fun hc => ?_) (fun hc0 => ?_)
      ·
        refine wpF_seq ?_
        refine wpF_region rfl ?_   -- R10
        refine wpO_val rfl (x_assignI rfl) ?_
        refine wpO_nil ?_
        refine wpF_ret ?_
        repeat (with_reducible first | refine thenF_r ?_ | refine inBlockF_r ?_)
        refine end_t rfl rfl ?_   -- tmp:4
        exact ⟨iq (by unfold cmpI; rw [if_pos (by simpa using hc)]), H⟩
      ·
        refine wpF_skip ?_
        refine wpF_seq ?_
        refine wpF_seq ?_
        refine wpF_region rfl ?_   -- R11
        refine wpO_val rfl (x_moveI rfl) ?_
        refine wpO_val rfl (x_moveI rfl) ?_
        refine wpO_val rfl (x_cmp rfl rfl rfl rfl) ?_
        refine wpO_nil ?_
        refine wpF_cond _ rfl (fun hc => ?_) (fun hc => ?_)   -- t19
        ·
          refine wpF_seq ?_
          refine wpF_region rfl ?_   -- R12
          refine wpO_val rfl (x_assignI rfl) ?_
          refine wpO_nil ?_
          refine wpF_ret ?_
          repeat (with_reducible first | refine thenF_r ?_ | refine inBlockF_r ?_)
          refine end_t rfl rfl ?_   -- tmp:4
          exact ⟨iq (by unfold cmpI; rw [if_neg (of_decide_eq_false hc0), if_pos (by simpa using hc)]), H⟩
        ·
          refine wpF_skip ?_
          refine wpF_seq ?_
          refine wpF_region rfl ?_   -- R13
          refine wpO_val rfl (x_assignI rfl) ?_
          refine wpO_nil ?_
          refine wpF_ret ?_
          repeat (with_reducible first | refine thenF_r ?_ | refine inBlockF_r ?_)
          refine end_t rfl rfl ?_   -- tmp:4
          exact ⟨iq (by unfold cmpI; rw [if_neg (of_decide_eq_false hc0), if_neg (by simpa using hc)]), H⟩
-- >> compare_c
-- << shareCmp_c
theorem shareCmp_c {c : Cx} {g : Heap} {w : World} {F : List Asn} (x y : Int × Nat) (H : Holds c g w F) :
    Calls Tryz.prog 125 #[encR x, encR y] w (Ret fun v w' => v = .int .i64 (cmpI y.1 x.1) ∧ Holds c g w' F) := by
  have H : Holds c g w ([] ++ F) := H
  -- tarmac/prorate.Share$1  (function 208; params ['199', '199']; results tmp:4; ntmps 10)
  refine calls_of_wpF Tryz.func125 rfl Tryz.ntmps125 rfl ?_
  refine wpF_seq ?_
  refine wpF_region rfl ?_   -- R0
  refine wpO_eff rfl (e_boxA H rfl fun b2 w H => ?_)
  refine wpO_eff rfl (e_boxA H rfl fun b3 w H => ?_)
  refine wpO_val rfl (x_assignI rfl) ?_
  refine wpO_nil ?_
  refine wpF_seq ?_
  refine wpF_region rfl ?_   -- R1
  refine wpO_val rfl (x_fieldAddrN Tryz.underlying199 rfl Tryz.sizeOf2 rfl rfl) ?_
  refine wpO_val rfl (x_load0bI Tryz.isAgg2 rfl (H.getF 1 rfl) rfl) ?_
  refine wpO_val rfl (x_fieldAddrN Tryz.underlying199 rfl Tryz.sizeOf2 rfl rfl) ?_
  refine wpO_val rfl (x_load0bI Tryz.isAgg2 rfl (H.getF 0 rfl) rfl) ?_
  refine wpO_eff rfl (e_callF Tryz.call126 rfl ((compare_c _ _ H).mono (Ret.mono ?_)))   -- of t6 t8
  rintro v9 w ⟨rfl, H'⟩
  replace H := H.re H' rfl
  refine wpO_val rfl (x_assignI rfl) ?_
  refine wpO_nil ?_
  refine wpF_ret ?_
  repeat (with_reducible first | refine thenF_r ?_ | refine inBlockF_r ?_)
  refine end_t rfl rfl ?_   -- tmp:4
  exact ⟨rfl, H.sel [] 2 rfl rfl⟩
-- >> shareCmp_c
-- << insSort_c
theorem insSort_c {c : Cx} {g : Heap} {w : World} {F : List Asn} {b cp : Nat} (xs : List (Int × Nat)) (h1 : 1 ≤ xs.length) (h2 : xs.length ≤ 1000) (hat : xs.Pairwise fun x y => x.2 < y.2) (H : Holds c g w ([rowR b xs.length cp xs] ++ F)) :
    Calls Tryz.prog 167 #[.slice (some ⟨b, 0, none⟩) xs.length cp, .int .i64 0, .int .i64 (xs.length : Nat), .func (.func 125) #[] #[]] w
      (Ret fun v w' => v = .tuple #[] ∧ ∃ ys, (ys.Perm xs ∧ ys.Pairwise RR) ∧ Holds c g w' ([rowR b xs.length cp ys] ++ F)) := by
  -- slices.insertionSortCmpFunc[tarmac/prorate.rest]  (function 293; params ['195', '3', '3', '202']; results ; ntmps 53)
  refine calls_of_wpF Tryz.func167 rfl Tryz.ntmps167 rfl ?_
  refine wpF_seq ?_
  refine wpF_region rfl ?_   -- R0
  refine wpO_val rfl (x_moveI rfl) ?_
  refine wpO_val rfl (x_arith rfl rfl (fun _ => rfl) rfl) ?_
  refine wpO_val rfl (x_assignI rfl) ?_
  refine wpO_nil ?_
  refine wpF_block ?_   -- block 0
  refine wpF_loop (fun q f w => ∃ i zs f0, (1 ≤ i ∧ i ≤ xs.length ∧ q = xs.length - i ∧ InsO xs i zs) ∧ Holds c g w ([rowR b xs.length cp zs] ++ F) ∧ f = updL f0 [(0, .slice (some ⟨b, 0, none⟩) xs.length cp), (1, .int .i64 0), (2, .int .i64 (xs.length : Nat)), (3, .func (.func 125) #[] #[]), (8, .int .i64 (i : Nat))]) (xs.length - 1) ?_ ?_
  · refine ⟨1, xs, _, ⟨by omega, h1, rfl, xs.take 1, (List.take_append_drop 1 xs).symm, ?_, .refl _⟩, H, updL_eta ⟨rfl, rfl, rfl, rfl, rfl, trivial⟩⟩
    rw [List.take_one]; cases xs.head? <;> simp
  · rintro q f w ⟨i, zs, f0, ⟨hi1, hi2, hq, hO⟩, H, rfl⟩
    refine wpF_seq ?_
    refine wpF_seq ?_
    refine wpF_region rfl ?_   -- R1
    refine wpO_val rfl (x_moveI rfl) ?_
    refine wpO_val rfl (x_moveI rfl) ?_
    refine wpO_val rfl (x_cmp rfl rfl rfl rfl) ?_
    refine wpO_nil ?_
    refine wpF_cond _ rfl (fun hc => ?_) (fun hc => ?_)   -- t14
    ·
      have hi : i < xs.length := by simpa using hc
      refine wpF_skip ?_
      refine wpF_seq ?_
      refine wpF_block ?_   -- block 1
      refine wpF_seq ?_
      refine wpF_region rfl ?_   -- R3
      refine wpO_val rfl (x_moveI rfl) ?_
      refine wpO_val rfl (x_assignI rfl) ?_
      refine wpO_nil ?_
      refine wpF_block ?_   -- block 2
      refine wpF_loop (fun q f w => ∃ j zs f0, (q = j ∧ InsI xs i j zs) ∧ Holds c g w ([rowR b xs.length cp zs] ++ F) ∧ f = updL f0 [(0, .slice (some ⟨b, 0, none⟩) xs.length cp), (1, .int .i64 0), (2, .int .i64 (xs.length : Nat)), (3, .func (.func 125) #[] #[]), (8, .int .i64 (i : Nat)), (9, .int .i64 (j : Nat))]) i ?_ ?_
      · exact ⟨i, zs, _, ⟨rfl, ins_start hO hi⟩, H, updL_eta ⟨rfl, rfl, rfl, rfl, rfl, rfl, trivial⟩⟩
      · rintro q' f w ⟨j, zs, f0, ⟨rfl, hI⟩, H, rfl⟩
        have hl := ins_len hI
        refine wpF_seq ?_
        refine wpF_seq ?_
        refine wpF_drawC [0, 1, 2, 3, 4, 5, 6, 7, 8, 9, 10, 11, 12, 13, 14, 15, 16] [14] [0, 0, 0, 0, 0, 0, 0, 0, 0, 0, 0, 0, 0, 0, 1, 1, 1] (fun _ _ => True) mixed (by kernel_rfl) rfl fun w hw => ?_   -- R4 DRAWS [(14, 'call')]
        have H := H.to hw
        refine wpDC_e rfl rfl rfl rfl (x_moveI rfl) ?_
        refine wpDC_e rfl rfl rfl rfl (x_moveI rfl) ?_
        refine wpDC_e rfl rfl rfl rfl (x_cmp rfl rfl rfl rfl) ?_
        refine wpDC_e rfl rfl rfl rfl (x_moveB rfl) ?_
        refine wpDC_split 21 rfl (fun hb21 => ?_) (fun hb21 => ?_)
        ·
          obtain ⟨j', rfl⟩ : ∃ j', q' = j' + 1 := ⟨q' - 1, by simp at hb21; omega⟩
          obtain ⟨p, x, hp, hx, hlt, hge⟩ := ins_get hat hI
          refine wpDC_e rfl rfl rfl rfl (x_moveF rfl) ?_
          refine wpDC_e rfl rfl rfl rfl (x_moveL rfl) ?_
          refine wpDC_e rfl rfl rfl rfl (x_moveI rfl) ?_
          refine wpDC_e rfl rfl rfl rfl (x_indexSl Tryz.underlying195 Tryz.sizeOf199 rfl rfl (by omega) (by omega)) ?_
          refine wpDC_e rfl rfl rfl rfl (x_loadRow H 0 rfl elR rfl hx) ?_
          refine wpDC_e rfl rfl rfl rfl (x_moveL rfl) ?_
          refine wpDC_e rfl rfl rfl rfl (x_moveI rfl) ?_
          refine wpDC_e rfl rfl rfl rfl (x_arithV ((j' : Nat) : Int) rfl rfl (by show IntKind.i64.wrap (((j' + 1 : Nat) : Int) - 1) = _; rw [w64 (by omega) (by omega)]; omega)) ?_
          refine wpDC_e rfl rfl rfl rfl (x_indexSl Tryz.underlying195 Tryz.sizeOf199 rfl rfl (by omega) (by omega)) ?_
          refine wpDC_e rfl rfl rfl rfl (x_loadRow H 0 rfl elR rfl hp) ?_
          refine wpDC_eff rfl rfl rfl (e_call (fi := #[]) (ca := #[]) (vs := [encR x, encR p]) rfl Tryz.call125 rfl ((shareCmp_c x p H).mono (Ret.mono ?_)))
          rintro v32 w ⟨rfl, H'⟩
          replace H := H.re H' rfl
          refine ⟨trivial, ?_⟩
          refine wpDC_q rfl rfl rfl (fun w => (x_cmp rfl rfl rfl rfl)) ?_
          refine wpDC_q rfl rfl rfl (fun w => (x_pickB rfl rfl)) ?_
          refine wpDC_nil ?_
          refine wpF_cond _ rfl (fun hc => ?_) (fun hc => ?_)   -- t34
          ·
            refine wpF_skip ?_
            refine wpF_seq ?_
            refine wpF_block ?_   -- block 3
            refine wpF_drawC [0, 1, 2, 3, 4, 5, 6, 7, 8, 9, 10, 11, 12, 13, 14, 15, 16, 17] [15, 17] [0, 0, 2, 2, 2, 0, 0, 0, 0, 0, 0, 0, 0, 0, 0, 2, 2, 2] (fun _ _ => True) mixed (by kernel_rfl) rfl fun w hw => ?_   -- R6 DRAWS [(15, 'store'), (17, 'store')]
            have H := H.to hw
            refine wpDC_e rfl rfl rfl rfl (x_moveL rfl) ?_
            refine wpDC_e rfl rfl rfl rfl (x_moveI rfl) ?_
            refine wpDC_q rfl rfl rfl (fun w => (x_moveL rfl)) ?_
            refine wpDC_q rfl rfl rfl (fun w => (x_moveI rfl)) ?_
            refine wpDC_q rfl rfl rfl (fun w => (x_arithV ((j' : Nat) : Int) rfl rfl (by show IntKind.i64.wrap (((j' + 1 : Nat) : Int) - 1) = _; rw [w64 (by omega) (by omega)]; omega))) ?_
            refine wpDC_e rfl rfl rfl rfl (x_moveL rfl) ?_
            refine wpDC_e rfl rfl rfl rfl (x_moveI rfl) ?_
            refine wpDC_e rfl rfl rfl rfl (x_arithV ((j' : Nat) : Int) rfl rfl (by show IntKind.i64.wrap (((j' + 1 : Nat) : Int) - 1) = _; rw [w64 (by omega) (by omega)]; omega)) ?_
            refine wpDC_e rfl rfl rfl rfl (x_indexSl Tryz.underlying195 Tryz.sizeOf199 rfl rfl (by omega) (by omega)) ?_
            refine wpDC_e rfl rfl rfl rfl (x_loadRow H 0 rfl elR rfl hp) ?_
            refine wpDC_e rfl rfl rfl rfl (x_moveL rfl) ?_
            refine wpDC_e rfl rfl rfl rfl (x_moveI rfl) ?_
            refine wpDC_e rfl rfl rfl rfl (x_indexSl Tryz.underlying195 Tryz.sizeOf199 rfl rfl (by omega) (by omega)) ?_
            refine wpDC_e rfl rfl rfl rfl (x_loadRow H 0 rfl elR rfl hx) ?_
            refine wpDC_e rfl rfl rfl rfl (x_indexSl Tryz.underlying195 Tryz.sizeOf199 rfl rfl (by omega) (by omega)) ?_
            refine wpDC_eff0 rfl rfl rfl (e_storeRow (k := j' + 1) H 0 rfl elR p rfl rfl (by omega) fun w H => ⟨trivial, ?_⟩)
            refine wpDC_q rfl rfl rfl (fun w => (x_indexSl Tryz.underlying195 Tryz.sizeOf199 rfl rfl (by omega) (by omega))) ?_
            refine wpDC_eff0 rfl rfl rfl (e_storeRow (k := j') H 0 rfl elR x rfl rfl (by rw [List.length_set]; omega) fun w H => ⟨trivial, ?_⟩)
            refine wpDC_nil ?_
            refine wpF_region rfl ?_   -- R5
            refine wpO_val rfl (x_moveI rfl) ?_
            refine wpO_val rfl (x_arith rfl rfl (fun _ => rfl) rfl) ?_
            refine wpO_val rfl (x_assignI rfl) ?_
            refine wpO_nil ?_
            refine ⟨j', by omega, j', _, _, ⟨rfl, hlt (cmpI_lt.1 (of_decide_eq_true hc))⟩, H, updL_eta ⟨rfl, rfl, rfl, rfl, rfl, vi64 (by rw [w64 (by omega) (by omega)]; omega), trivial⟩⟩
          ·
            refine wpF_exit ?_   -- exit 2
            refine wpF_region rfl ?_   -- R2
            refine wpO_val rfl (x_moveI rfl) ?_
            refine wpO_val rfl (x_arith rfl rfl (fun _ => rfl) rfl) ?_
            refine wpO_val rfl (x_assignI rfl) ?_
            refine wpO_nil ?_
            refine ⟨xs.length - (i + 1), by omega, i + 1, _, _, ⟨by omega, by omega, rfl, hge fun h => of_decide_eq_false hc (cmpI_lt.2 h)⟩, H, updL_eta ⟨rfl, rfl, rfl, rfl, vi64 (w64 (by omega) (by omega)), trivial⟩⟩
        ·
          have hj0 : q' = 0 := by simp at hb21; omega
          subst hj0
          refine wpDC_not rfl rfl rfl ?_
          refine wpDC_not rfl rfl rfl ?_
          refine wpDC_not rfl rfl rfl ?_
          refine wpDC_not rfl rfl rfl ?_
          refine wpDC_not rfl rfl rfl ?_
          refine wpDC_not rfl rfl rfl ?_
          refine wpDC_not rfl rfl rfl ?_
          refine wpDC_not rfl rfl rfl ?_
          refine wpDC_not rfl rfl rfl ?_
          refine wpDC_not rfl rfl rfl ?_
          refine wpDC_notE rfl rfl rfl trivial ?_
          refine wpDC_not rfl rfl rfl ?_
          refine wpDC_q rfl rfl rfl (fun w => (x_pickB rfl rfl)) ?_
          refine wpDC_nil ?_
          refine wpF_false rfl ?_
          refine wpF_exit ?_   -- exit 2
          refine wpF_region rfl ?_   -- R2
          refine wpO_val rfl (x_moveI rfl) ?_
          refine wpO_val rfl (x_arith rfl rfl (fun _ => rfl) rfl) ?_
          refine wpO_val rfl (x_assignI rfl) ?_
          refine wpO_nil ?_
          refine ⟨xs.length - (i + 1), by omega, i + 1, _, _, ⟨by omega, by omega, rfl, ins_zero hI⟩, H, updL_eta ⟨rfl, rfl, rfl, rfl, vi64 (w64 (by omega) (by omega)), trivial⟩⟩
    ·
      refine wpF_exit ?_   -- exit 0
      repeat (with_reducible first | refine thenF_x ?_ | refine inBlockF_x ?_ | refine inBlockF_n ?_)
      refine endn_0 rfl ?_   -- 
      obtain ⟨P, hP1, hP2, hP3⟩ := hO
      have hi : i = xs.length := by simp at hc; omega
      subst hi
      rw [List.drop_length, List.append_nil] at hP1
      rw [List.take_length] at hP3
      subst hP1
      exact ⟨rfl, _, ⟨hP3, hP2⟩, H⟩
-- >> insSort_c
-- << stable_c
theorem stable_c {c : Cx} {g : Heap} {w : World} {F : List Asn} {b cp : Nat} (xs : List (Int × Nat)) (h1 : 1 ≤ xs.length) (h2 : xs.length < 20) (hat : xs.Pairwise fun x y => x.2 < y.2) (H : Holds c g w ([rowR b xs.length cp xs] ++ F)) :
    Calls Tryz.prog 144 #[.slice (some ⟨b, 0, none⟩) xs.length cp, .int .i64 (xs.length : Nat), .func (.func 125) #[] #[]] w
      (Ret fun v w' => v = .tuple #[] ∧ ∃ ys, (ys.Perm xs ∧ ys.Pairwise RR) ∧ Holds c g w' ([rowR b xs.length cp ys] ++ F)) := by
  -- slices.stableCmpFunc[tarmac/prorate.rest]  (function 261; params ['195', '3', '202']; results ; ntmps 63)
  refine calls_of_wpF Tryz.func144 rfl Tryz.ntmps144 rfl ?_
  refine wpF_seq ?_
  refine wpF_region rfl ?_   -- R0
  refine wpO_val rfl (x_assignI rfl) ?_
  refine wpO_nil ?_
  refine wpF_seq ?_
  refine wpF_region rfl ?_   -- R1
  refine wpO_val rfl (x_moveI rfl) ?_
  refine wpO_val rfl (x_assignI rfl) ?_
  refine wpO_val rfl (x_assignI rfl) ?_
  refine wpO_nil ?_
  refine wpF_seq ?_
  refine wpF_block ?_   -- block 0
  refine wpF_unroll 0 ?_
  refine wpLoop_0 ?_
  refine wpF_seq ?_
  refine wpF_seq ?_
  refine wpF_region rfl ?_   -- R2
  refine wpO_val rfl (x_moveI rfl) ?_
  refine wpO_val rfl (x_moveI rfl) ?_
  refine wpO_val rfl (x_cmp rfl rfl rfl rfl) ?_
  refine wpO_nil ?_
  refine wpF_cond _ rfl (fun hc => absurd hc (by simp; omega)) (fun hc => ?_)
  refine wpF_exit ?_   -- exit 0
  refine wpF_seq ?_
  refine wpF_region rfl ?_   -- R6
  refine wpO_val rfl (x_moveL rfl) ?_
  refine wpO_val rfl (x_moveI rfl) ?_
  refine wpO_val rfl (x_moveI rfl) ?_
  refine wpO_val rfl (x_moveF rfl) ?_
  refine wpO_eff rfl (e_callF Tryz.call167 rfl ((insSort_c xs h1 (by omega) hat H).mono (Ret.mono ?_)))
  rintro v27 w ⟨rfl, ys, hys, H⟩
  refine wpO_nil ?_
  refine wpF_block ?_   -- block 2
  refine wpF_unroll 0 ?_
  refine wpLoop_0 ?_
  refine wpF_seq ?_
  refine wpF_seq ?_
  refine wpF_region rfl ?_   -- R7
  refine wpO_val rfl (x_moveI rfl) ?_
  refine wpO_val rfl (x_moveI rfl) ?_
  refine wpO_val rfl (x_cmp rfl rfl rfl rfl) ?_
  refine wpO_nil ?_
  refine wpF_cond _ rfl (fun hc => absurd hc (by simp; omega)) (fun hc => ?_)
  refine wpF_exit ?_   -- exit 2
  repeat (with_reducible first | refine thenF_x ?_ | refine inBlockF_x ?_ | refine inBlockF_n ?_)
  refine endn_0 rfl ?_   -- 
  exact ⟨rfl, ys, hys, H⟩
-- >> stable_c
-- << sortStable_c
theorem sortStable_c {c : Cx} {g : Heap} {w : World} {F : List Asn} {b cp : Nat} (xs : List (Int × Nat)) (h1 : 1 ≤ xs.length) (h2 : xs.length < 20) (hat : xs.Pairwise fun x y => x.2 < y.2) (H : Holds c g w ([rowR b xs.length cp xs] ++ F)) :
    Calls Tryz.prog 124 #[.slice (some ⟨b, 0, none⟩) xs.length cp, .func (.func 125) #[] #[]] w
      (Ret fun v w' => v = .tuple #[] ∧ ∃ ys, (ys.Perm xs ∧ ys.Pairwise RR) ∧ Holds c g w' ([rowR b xs.length cp ys] ++ F)) := by
  -- slices.SortStableFunc[[]tarmac/prorate.rest,tarmac/prorate.rest]  (function 207; params ['195', '202']; results ; ntmps 9)
  refine calls_of_wpF Tryz.func124 rfl Tryz.ntmps124 rfl ?_
  refine wpF_region rfl ?_   -- R0
  refine wpO_val rfl (x_moveL rfl) ?_
  refine wpO_val rfl (x_moveL rfl) ?_
  refine wpO_val rfl (x_lenSl Tryz.underlying195 rfl) ?_
  refine wpO_val rfl (x_moveF rfl) ?_
  refine wpO_eff rfl (e_callF Tryz.call144 rfl ((stable_c xs h1 h2 hat H).mono (Ret.mono ?_)))
  rintro v8 w ⟨rfl, ys, hys, H⟩
  refine wpO_nil ?_
  repeat (with_reducible first | refine thenF_x ?_ | refine inBlockF_x ?_ | refine inBlockF_n ?_)
  refine endn_0 rfl ?_   -- 
  exact ⟨rfl, ys, hys, H⟩
-- >> sortStable_c

theorem eluint32 : ElLaw Tryz.prog 29 (IK.v (k := .u32)) 1 := ⟨Tryz.sizeOf29, .inr ⟨Tryz.isAgg29, rfl, fun _ => rfl⟩, fun _ => rfl, fun _ => rfl⟩
def rowO (s : Sl) (xs : List Int) : Asn := rowE 2 encI 1 s xs
def rowRs (s : Sl) (xs : List (Int × Nat)) : Asn := rowE 199 encR 2 s xs

/-! the plain part -/
def whs (t all : Int) (W : List Int) : List Int := W.map fun x => t * x / all
def rl (t all : Int) (W : List Int) : List (Int × Nat) := W.zipIdx.map fun p => (t * p.1 % all, p.2)
def give (outs : List Int) (S : List (Int × Nat)) : List Int := S.foldl (fun o r => o.set r.2 (o.getD r.2 0 + 1)) outs
/-- How much is left to be given out. -/
def leftOf (t all : Int) (W : List Int) : Int := t - (whs t all W).sum

theorem rl_len (t all : Int) (W : List Int) : (rl t all W).length = W.length := by simp [rl]
theorem rl_get (t all : Int) (W : List Int) (i : Nat) (h : i < (rl t all W).length) : ((rl t all W)[i]).2 = i := by simp [rl]
theorem rl_snoc (t all : Int) {W : List Int} {k : Nat} (h : k < W.length) : rl t all (W.take (k + 1)) = rl t all (W.take k) ++ [(t * W[k] % all, k)] := by
  rw [List.take_succ_eq_append_getElem h]
  unfold rl
  rw [List.zipIdx_append, List.map_append]
  simp [Nat.min_eq_left (Nat.le_of_lt h)]
theorem rl_at (t all : Int) (W : List Int) : (rl t all W).Pairwise fun x y => x.2 < y.2 := by
  rw [List.pairwise_iff_getElem]
  intro i j hi hj hij
  rw [rl_get, rl_get]; exact hij
theorem whs_snoc (t all : Int) {W : List Int} {k : Nat} (h : k < W.length) : whs t all (W.take (k + 1)) = whs t all (W.take k) ++ [t * W[k] / all] := by
  unfold whs
  rw [List.take_succ_eq_append_getElem h, List.map_append]; rfl
theorem le_sum {W : List Int} (h0 : ∀ x ∈ W, 0 ≤ x) : 0 ≤ W.sum ∧ ∀ x ∈ W, x ≤ W.sum := by
  induction W with
  | nil => simp
  | cons y r ih =>
    obtain ⟨h1, h2⟩ := ih fun x hx => h0 x (by simp [hx])
    have hy := h0 y (by simp)
    simp only [List.sum_cons]
    refine ⟨by omega, fun x hx => ?_⟩
    rcases List.mem_cons.1 hx with rfl | hx
    · omega
    · have := h2 x hx; omega
theorem left_bounds {t all : Int} (ht : 0 ≤ t) (ha : 1 ≤ all) : ∀ W : List Int, (∀ x ∈ W, 0 ≤ x) → all * (whs t all W).sum ≤ t * W.sum ∧ t * W.sum ≤ all * (whs t all W).sum + all * (W.length : Nat)
  | [], _ => by simp [whs]
  | x :: r, h0 => by
    obtain ⟨h1, h2⟩ := left_bounds ht ha r fun y hy => h0 y (by simp [hy])
    have h3 := Int.mul_ediv_add_emod (t * x) all
    have h4 := Int.emod_nonneg (t * x) (show all ≠ 0 by omega)
    have h5 := Int.emod_lt_of_pos (t * x) (show 0 < all by omega)
    have e : whs t all (x :: r) = t * x / all :: whs t all r := rfl
    simp only [e, List.sum_cons, Int.mul_add, List.length_cons]
    push_cast
    rw [Int.mul_add]
    omega
theorem leftOf_bounds {t all : Int} {W : List Int} (ht : 0 ≤ t) (ha : 1 ≤ all) (hW : all = W.sum) (h0 : ∀ x ∈ W, 0 ≤ x) : 0 ≤ leftOf t all W ∧ leftOf t all W ≤ (W.length : Nat) := by
  obtain ⟨h1, h2⟩ := left_bounds ht ha W h0
  rw [← hW, Int.mul_comm t all] at h1 h2
  have h3 : (whs t all W).sum ≤ t := Int.le_of_mul_le_mul_left h1 (by omega)
  rw [← Int.mul_add] at h2
  have h4 := Int.le_of_mul_le_mul_left h2 (by omega)
  unfold leftOf
  omega
theorem give_len (S : List (Int × Nat)) : ∀ outs, (give outs S).length = outs.length := by
  induction S with
  | nil => intro outs; rfl
  | cons r S ih => intro outs; show (give (outs.set r.2 (outs.getD r.2 0 + 1)) S).length = _; rw [ih]; simp
theorem give_snoc (outs : List Int) {S : List (Int × Nat)} {k : Nat} (h : k < S.length) : give outs (S.take (k + 1)) = (give outs (S.take k)).set S[k].2 ((give outs (S.take k)).getD S[k].2 0 + 1) := by
  unfold give
  rw [List.take_succ_eq_append_getElem h, List.foldl_append]; rfl
theorem give_le {M : Int} : ∀ (S : List (Int × Nat)) (outs : List Int) (j : Int), (∀ o ∈ outs, 0 ≤ o ∧ o ≤ M + j) → 0 ≤ j → 0 ≤ M → ∀ o ∈ give outs S, 0 ≤ o ∧ o ≤ M + j + S.length
  | [], outs, j, h, _, _, o, ho => by have := h o ho; simp; omega
  | r :: S, outs, j, h, hj, hM, o, ho => by
    have hg : 0 ≤ outs.getD r.2 0 ∧ outs.getD r.2 0 ≤ M + j := by
      by_cases hr : r.2 < outs.length
      · have e : outs.getD r.2 0 = outs[r.2] := by simp [hr]
        rw [e]; exact h _ (by simp)
      · have e : outs.getD r.2 0 = 0 := by simp [List.getD_eq_getElem?_getD, List.getElem?_eq_none (Nat.le_of_not_lt hr)]
        rw [e]; omega
    have := give_le (M := M) S (outs.set r.2 (outs.getD r.2 0 + 1)) (j + 1) (fun x hx => by
      rcases List.mem_or_eq_of_mem_set hx with hx | rfl
      · have := h x hx; omega
      · omega) (by omega) hM o ho
    simp only [List.length_cons]
    push_cast
    omega

-- << share_c
theorem share_c {c : Cx} {g : Heap} {w : World} {F : List Asn} {s : Sl} {xs : List (IK .u32)} (t : Int) (ht : 0 ≤ t ∧ t ≤ 1125899906842624) (hs : SlR g (IK.v (k := .u32)) 1 s xs) (h1 : 1 ≤ xs.length) (h2 : xs.length < 20) (hw : ∀ x ∈ xs, 1 ≤ x.n) (H : Holds c g w F) :
    Calls Tryz.prog 97 #[.int .i64 t, s.v] w (Ret fun v w' => ∃ (s' : Sl) (g' : Heap) (ys : List (Int × Nat)) (W : List Int), W = xs.map (fun x => x.n) ∧ v = .tuple #[s'.v, .int .i64 0] ∧ (ys.Perm (rl t W.sum W) ∧ ys.Pairwise RR) ∧ Le g g' ∧ SlR g' encI 1 s' (give (whs t W.sum W) (ys.take (leftOf t W.sum W).toNat)) ∧ Holds c g' w' F) := by
  have H : Holds c g w ([] ++ F) := H
  have hlen := hs.len
  have hM : inM t = true := inM_iff.2 ⟨by omega, by omega⟩
  obtain ⟨W, hW⟩ : ∃ W, W = xs.map (fun x => x.n) := ⟨_, rfl⟩
  have hWl : W.length = xs.length := by rw [hW, List.length_map]
  have hWk : ∀ k (h : k < xs.length), W[k]'(by omega) = xs[k].n := fun k h => by subst hW; simp
  have hWb : ∀ x ∈ W, 1 ≤ x ∧ x ≤ 4294967295 := fun x hx => by
    rw [hW] at hx
    obtain ⟨y, hy, rfl⟩ := List.mem_map.1 hx
    exact ⟨hw y hy, y.u32.2⟩
  have hW0 : ∀ x ∈ W, 0 ≤ x := fun x hx => by have := hWb x hx; omega
  have hWs : 1 ≤ W.sum := by
    have h := (le_sum hW0).2 W[0] (by simp)
    have := hWb W[0] (by simp)
    omega
  have hWt : ∀ k, k ≤ W.length → 0 ≤ (W.take k).sum ∧ (W.take k).sum ≤ (k : Nat) * 4294967295 := by
    intro k
    induction k with
    | zero => simp
    | succ k ih =>
      intro hk
      have := ih (by omega)
      have hx := hWb W[k] (by simp)
      rw [List.take_succ_eq_append_getElem (by omega), List.sum_append]
      simp only [List.sum_cons, List.sum_nil]
      push_cast
      omega
  have hWsum : W.sum ≤ 19 * 4294967295 := by
    have := hWt W.length (Nat.le_refl _)
    rw [List.take_length] at this
    omega
  have hpart : ∀ x ∈ W, 0 ≤ t * x / W.sum ∧ t * x / W.sum ≤ t := fun x hx => by
    have h3 := hW0 x hx
    have h4 := (le_sum hW0).2 x hx
    exact ⟨Int.ediv_nonneg (Int.mul_nonneg ht.1 h3) (by omega), Int.ediv_le_of_le_mul (by omega) (Int.mul_le_mul_of_nonneg_left h4 ht.1)⟩
  have hwhs : ∀ k, k ≤ W.length → 0 ≤ (whs t W.sum (W.take k)).sum ∧ (whs t W.sum (W.take k)).sum ≤ (k : Nat) * 1125899906842624 := by
    intro k
    induction k with
    | zero => simp [whs]
    | succ k ih =>
      intro hk
      have := ih (by omega)
      have hx := hpart W[k] (by simp)
      rw [whs_snoc _ _ (show k < W.length by omega), List.sum_append]
      simp only [List.sum_cons, List.sum_nil]
      push_cast
      omega
  -- tarmac/prorate.Share  (function 151; params ['2', '171']; results tmp:4 tmp:5; ntmps 97)
  refine calls_of_wpF Tryz.func97 rfl Tryz.ntmps97 rfl ?_
  refine wpF_seq ?_
  refine wpF_region rfl ?_   -- R0
  refine wpO_val rfl (x_assignL rfl) ?_
  refine wpO_val rfl (x_assignI rfl) ?_
  refine wpO_nil ?_
  refine wpF_seq ?_
  refine wpF_seq ?_
  refine wpF_region rfl ?_   -- R1
  refine wpO_val rfl (x_moveL rfl) ?_
  refine wpO_val rfl (x_lenSl Tryz.underlying171 rfl) ?_
  refine wpO_val rfl (x_cmp rfl rfl rfl rfl) ?_
  refine wpO_nil ?_
  refine wpF_cond _ rfl (fun hc => absurd hc (by simp [hlen]; omega)) (fun hc => ?_)
  ·
    refine wpF_skip ?_
    refine wpF_seq ?_
    refine wpF_region rfl ?_   -- R3
    refine wpO_val rfl (x_assignI rfl) ?_
    refine wpO_nil ?_
    refine wpF_seq ?_
    refine wpF_seq ?_
    refine wpF_region rfl ?_   -- R4
    refine wpO_val rfl (x_moveL rfl) ?_
    refine wpO_val rfl (x_lenSl Tryz.underlying171 rfl) ?_
    refine wpO_val rfl (x_moveI rfl) ?_
    refine wpO_nil ?_
    refine wpF_block ?_   -- block 0
    refine wpF_loop (fun q f w => ∃ k f0, (k ≤ xs.length ∧ q = xs.length - k) ∧ Holds c g w ([] ++ F) ∧ f = updL f0 [(0, .int .i64 t), (1, s.v), (6, .int .i64 (W.take k).sum), (22, s.v), (23, .int .i64 s.len), (24, .int .i64 (k : Nat))]) xs.length ?_ ?_
    · exact ⟨0, _, ⟨by omega, by omega⟩, H, updL_eta ⟨rfl, rfl, rfl, rfl, rfl, rfl, trivial⟩⟩
    · rintro q f w ⟨k, f0, ⟨hk, hn⟩, H, rfl⟩
      refine wpF_seq ?_
      refine wpF_region rfl ?_   -- R5
      refine wpO_val rfl (x_cmp rfl rfl rfl rfl) ?_
      refine wpO_nil ?_
      refine wpF_seq ?_
      refine wpF_cond _ rfl (fun hc => ?_) (fun hc => ?_)   -- t25
      ·
        have hk' : k < xs.length := by rw [← hlen]; simpa using hc
        refine wpF_skip ?_
        refine wpF_seq ?_
        refine wpF_block ?_   -- block 1
        refine wpF_seq ?_
        refine wpF_region rfl ?_   -- R6
        refine wpO_val rfl (x_indexEl hs Tryz.underlying171 Tryz.sizeOf29 rfl rfl (by omega) (by omega)) ?_
        refine wpO_val rfl (x_loadEl eluint32 hs H rfl (List.getElem?_eq_getElem hk')) ?_
        refine wpO_val rfl (x_assignI rfl) ?_
        refine wpO_nil ?_
        refine wpF_region rfl ?_   -- R7
        refine wpO_val rfl (x_moveI rfl) ?_
        refine wpO_val rfl (x_moveI rfl) ?_
        refine wpO_val rfl (x_conv Tryz.underlying29 Tryz.underlying2 rfl) ?_
        refine wpO_val rfl (x_arithV (W.take (k + 1)).sum rfl rfl (by
          show IntKind.i64.wrap ((W.take k).sum + IntKind.i64.wrap xs[k].n) = _
          have hx := xs[k].u32
          have hs1 := hWt k (by omega)
          rw [w64 (n := xs[k].n) (by omega) (by omega), w64 (by omega) (by omega), List.take_succ_eq_append_getElem (by omega), List.sum_append, hWk k hk']
          simp)) ?_
        refine wpO_val rfl (x_assignI rfl) ?_
        refine wpO_nil ?_
        refine wpF_region rfl ?_   -- R8
        refine wpO_val rfl (x_arith rfl rfl (fun _ => rfl) rfl) ?_
        refine wpO_val rfl (x_moveI rfl) ?_
        refine wpO_nil ?_
        refine ⟨xs.length - (k + 1), by omega, k + 1, _, ⟨by omega, rfl⟩, H, updL_eta ⟨rfl, rfl, rfl, rfl, rfl, vi64 (w64 (by omega) (by omega)), trivial⟩⟩
      ·
        have hk2 : k = xs.length := by have h3 : ¬ (k : Int) < xs.length := (by rw [← hlen]; simpa using hc); omega
        subst hk2
        refine wpF_exit ?_   -- exit 0
        refine wpF_seq ?_
        refine wpF_block ?_   -- block 2
        refine wpF_seq ?_
        refine wpF_region rfl ?_   -- R9
        refine wpO_val rfl (x_moveI rfl) ?_
        refine wpO_val rfl (x_cmp rfl rfl rfl rfl) ?_
        refine wpO_val rfl (x_assignB rfl) ?_
        refine wpO_nil ?_
        refine wpF_cond _ rfl (fun hc => absurd hc (by rw [← hWl, List.take_length]; simp; omega)) (fun hc => ?_)
        ·
          refine wpF_seq ?_
          refine wpF_region rfl ?_   -- R11
          refine wpO_val rfl (x_moveI rfl) ?_
          refine wpO_val rfl (x_cmp rfl rfl rfl rfl) ?_
          refine wpO_val rfl (x_moveB rfl) ?_
          refine wpO_split 39 rfl (fun hb39 => ?_) (fun hb39 => ?_)
          ·
            exfalso; simp at hb39; omega
          ·
            refine wpO_val rfl (x_moveI rfl) ?_
            refine wpO_eff rfl (e_callF Tryz.call122 rfl ((mcheck_c t H).mono (Ret.mono ?_)))
            rintro v41 w ⟨rfl, H'⟩
            replace H := H.re H' rfl
            refine wpO_val rfl (x_cmp rfl rfl rfl rfl) ?_
            refine wpO_val rfl (x_pickB rfl rfl) ?_
            refine wpO_val rfl (x_assignB rfl) ?_
            refine wpO_nil ?_
            refine wpF_cond _ rfl (fun hc => absurd hc (by simp [hM])) (fun hc => ?_)
            ·
              refine wpF_skip ?_
              refine wpF_seq ?_
              refine wpF_region rfl ?_   -- R13
              refine wpO_val rfl (x_assignL rfl) ?_
              refine wpO_nil ?_
              refine wpF_seq ?_
              refine wpF_region rfl ?_   -- R14
              refine wpO_val rfl (x_assignL rfl) ?_
              refine wpO_nil ?_
              refine wpF_seq ?_
              refine wpF_region rfl ?_   -- R15
              refine wpO_val rfl (x_moveI rfl) ?_
              refine wpO_val rfl (x_assignI rfl) ?_
              refine wpO_nil ?_
              refine wpF_seq ?_
              refine wpF_seq ?_
              refine wpF_region rfl ?_   -- R16
              refine wpO_val rfl (x_moveL rfl) ?_
              refine wpO_val rfl (x_lenSl Tryz.underlying171 rfl) ?_
              refine wpO_val rfl (x_moveI rfl) ?_
              refine wpO_nil ?_
              refine wpF_block ?_   -- block 3
              rw [← hWl, List.take_length]
              have H := (H.nilRowAt (E := 2) (m := 1)).nilRowAt (E := 199) (m := 2)
              refine wpF_loop (fun q f w => ∃ k s9 s10 f0, (k ≤ xs.length ∧ q = xs.length - k ∧ s9.len = k ∧ s10.len = k ∧ (0 < k → (∃ b, s9.a = some ⟨b, 0, none⟩) ∧ ∃ b, s10.a = some ⟨b, 0, none⟩)) ∧ Holds c g w ([rowO s9 (whs t W.sum (W.take k)), rowRs s10 (rl t W.sum (W.take k))] ++ F) ∧ f = updL f0 [(0, .int .i64 t), (6, .int .i64 W.sum), (9, s9.v), (10, s10.v), (11, .int .i64 (leftOf t W.sum (W.take k))), (45, s.v), (46, .int .i64 s.len), (47, .int .i64 (k : Nat))]) xs.length ?_ ?_
              · exact ⟨0, Sl.nil, Sl.nil, _, ⟨by omega, by omega, rfl, rfl, fun h => by omega⟩, H, updL_eta ⟨rfl, rfl, rfl, rfl, vi64 (by simp [leftOf, whs]), rfl, rfl, rfl, trivial⟩⟩
              · rintro q f w ⟨k, s9, s10, f0, ⟨hk, hn, hl9, hl10, hsm⟩, H, rfl⟩
                refine wpF_seq ?_
                refine wpF_region rfl ?_   -- R17
                refine wpO_val rfl (x_cmp rfl rfl rfl rfl) ?_
                refine wpO_nil ?_
                refine wpF_seq ?_
                refine wpF_cond _ rfl (fun hc => ?_) (fun hc => ?_)   -- t48
                ·
                  have hk' : k < xs.length := by rw [← hlen]; simpa using hc
                  have hxk := xs[k].u32
                  have hwk : IntKind.i64.wrap xs[k].n = W[k] := by rw [hWk k hk']; exact w64 (by omega) (by omega)
                  have hwm : W[k] ≤ W.sum := (le_sum hW0).2 _ (by simp)
                  have hw0 := hW0 W[k] (by simp)
                  refine wpF_skip ?_
                  refine wpF_seq ?_
                  refine wpF_block ?_   -- block 4
                  refine wpF_seq ?_
                  refine wpF_region rfl ?_   -- R18
                  refine wpO_val rfl (x_moveI rfl) ?_
                  refine wpO_val rfl (x_indexEl hs Tryz.underlying171 Tryz.sizeOf29 rfl rfl (by omega) (by omega)) ?_
                  refine wpO_val rfl (x_loadEl eluint32 hs H rfl (List.getElem?_eq_getElem hk')) ?_
                  refine wpO_val rfl (x_assignI rfl) ?_
                  refine wpO_val rfl (x_assignI rfl) ?_
                  refine wpO_nil ?_
                  refine wpF_seq ?_
                  refine wpF_region rfl ?_   -- R19
                  refine wpO_val rfl (x_moveI rfl) ?_
                  refine wpO_val rfl (x_moveI rfl) ?_
                  refine wpO_val rfl (x_conv Tryz.underlying29 Tryz.underlying2 rfl) ?_
                  refine wpO_val rfl (x_moveI rfl) ?_
                  rw [hwk]
                  refine wpO_eff rfl (e_callF (vs := [.int .i64 t, .int .i64 W[k], .int .i64 W.sum]) Tryz.call123 rfl ((mpart_c t W[k] W.sum ht ⟨hw0, hwm⟩ ⟨hWs, by omega⟩ H).mono (Ret.mono ?_)))
                  rintro v57 w ⟨rfl, H'⟩
                  replace H := H.re H' rfl
                  refine wpO_val rfl (x_moveT rfl) ?_
                  refine wpO_val rfl (x_extractI rfl rfl) ?_
                  refine wpO_val rfl (x_extractI rfl rfl) ?_
                  refine wpO_val rfl (x_extractI rfl rfl) ?_
                  refine wpO_val rfl (x_assignI rfl) ?_
                  refine wpO_val rfl (x_assignI rfl) ?_
                  refine wpO_val rfl (x_assignI rfl) ?_
                  refine wpO_nil ?_
                  refine wpF_seq ?_
                  refine wpF_seq ?_
                  refine wpF_region rfl ?_   -- R20
                  refine wpO_val rfl (x_moveI rfl) ?_
                  refine wpO_val rfl (x_cmp rfl rfl rfl rfl) ?_
                  refine wpO_nil ?_
                  refine wpF_cond _ rfl (fun hc => absurd hc (by simp)) (fun hc => ?_)
                  ·
                    refine wpF_skip ?_
                    refine wpF_seq ?_
                    refine wpF_region rfl ?_   -- R22
                    refine wpO_val rfl (x_moveL rfl) ?_
                    refine wpO_val rfl (x_moveI rfl) ?_
                    refine wpO_eff rfl (e_buildSlice H Tryz.underlying60 Tryz.sizeOf2 Tryz.zeroValue2 rfl rfl (vs := [encI (t * W[k] / W.sum)]) rfl rfl (cs := [encI (t * W[k] / W.sum)]) rfl fun b66 w H => ?_)
                    refine wpO_eff rfl (e_append1 (enc := encI) (t * W[k] / W.sum) H 0 2 rfl rfl Tryz.underlying60 isint64 rfl rfl rfl rfl (by omega) (by omega) fun s67 w hs67 hn67 H => ?_)
                    refine wpO_val rfl (x_moveL rfl) ?_
                    refine wpO_val rfl (x_moveI rfl) ?_
                    refine wpO_val rfl (x_moveI rfl) ?_
                    refine wpO_val rfl (x_buildSt stR [.int .i64 (t * W[k] % W.sum), .int .i64 (k : Nat)] rfl (cs := #[.int .i64 (t * W[k] % W.sum), .int .i64 (k : Nat)]) rfl) ?_
                    refine wpO_eff rfl (e_buildSlice H Tryz.underlying195 Tryz.sizeOf199 Tryz.zeroValue199 rfl rfl (vs := [encR (t * W[k] % W.sum, k)]) rfl rfl (cs := [.int .i64 (t * W[k] % W.sum), .int .i64 (k : Nat)]) rfl fun b72 w H => ?_)
                    refine wpO_eff rfl (e_append1 (enc := encR) (t * W[k] % W.sum, k) H 1 3 rfl rfl Tryz.underlying195 isR rfl rfl rfl rfl (by omega) (by omega) fun s73 w hs73 hn73 H => ?_)
                    refine wpO_val rfl (x_assignL rfl) ?_
                    refine wpO_val rfl (x_assignL rfl) ?_
                    refine wpO_nil ?_
                    refine wpF_region rfl ?_   -- R23
                    refine wpO_val rfl (x_moveI rfl) ?_
                    refine wpO_val rfl (x_moveI rfl) ?_
                    refine wpO_val rfl (x_arithV (leftOf t W.sum (W.take (k + 1))) rfl rfl (by
                      show IntKind.i64.wrap (leftOf t W.sum (W.take k) - t * W[k] / W.sum) = _
                      have hp := hpart W[k] (by simp)
                      have hs1 := hwhs k (by omega)
                      unfold leftOf
                      rw [w64 (by omega) (by omega), whs_snoc _ _ (show k < W.length by omega), List.sum_append]
                      simp; omega)) ?_
                    refine wpO_val rfl (x_assignI rfl) ?_
                    refine wpO_nil ?_
                    refine wpF_region rfl ?_   -- R24
                    refine wpO_val rfl (x_arith rfl rfl (fun _ => rfl) rfl) ?_
                    refine wpO_val rfl (x_moveI rfl) ?_
                    refine wpO_nil ?_
                    have H : Holds c g w ([rowO s67 (whs t W.sum (W.take (k + 1))), rowRs s73 (rl t W.sum (W.take (k + 1)))] ++ F) := by
                      rw [whs_snoc _ _ (show k < W.length by omega), rl_snoc _ _ (show k < W.length by omega)]
                      exact H.sel [0, 1] 4 rfl rfl
                    exact ⟨xs.length - (k + 1), by omega, k + 1, s67, s73, _, ⟨by omega, rfl, by omega, by omega, fun _ => ⟨hn67, hn73⟩⟩, H, updL_eta ⟨rfl, rfl, rfl, rfl, rfl, rfl, rfl, vi64 (w64 (by omega) (by omega)), trivial⟩⟩
                ·
                  have hk2 : k = xs.length := by have h3 : ¬ (k : Int) < xs.length := (by rw [← hlen]; simpa using hc); omega
                  subst hk2
                  obtain ⟨⟨b9, hb9⟩, ⟨b10, hb10⟩⟩ := hsm (by omega)
                  obtain ⟨a9, n9, cp9⟩ := s9
                  obtain ⟨a10, n10, cp10⟩ := s10
                  simp only at hb9 hb10 hl9 hl10
                  subst hb9; subst hb10; subst hl9; subst hl10
                  rw [← hWl, List.take_length] at H ⊢
                  have hrl := rl_len t W.sum W
                  obtain ⟨junk, ⟨_, _, hcp⟩, _⟩ := Holds.rowE_some.1 (H.focusF 1 rfl)
                  have hcp : W.length ≤ cp10 := hcp
                  have hlb := leftOf_bounds ht.1 hWs rfl hW0
                  obtain ⟨l, hl⟩ : ∃ l : Nat, leftOf t W.sum W = l := ⟨_, (Int.toNat_of_nonneg hlb.1).symm⟩
                  rw [hl]
                  refine wpF_exit ?_   -- exit 3
                  refine wpF_seq ?_
                  refine wpF_region rfl ?_   -- R25
                  refine wpO_val rfl (x_moveL rfl) ?_
                  have hss := sortStable_c (c := c) (g := g) (w := w) (F := [rowO ⟨some ⟨b9, 0, none⟩, W.length, cp9⟩ (whs t W.sum W)] ++ F) (b := b10) (cp := cp10) (rl t W.sum W) (by omega) (by omega) (rl_at _ _ _)
                  rw [hrl] at hss
                  refine wpO_eff rfl (e_callF Tryz.call124 rfl ((hss (H.sel [1, 0] 2 rfl rfl)).mono (Ret.mono ?_)))
                  rintro v79 w ⟨rfl, ys, hys, H'⟩
                  have H : Holds c g w ([rowO ⟨some ⟨b9, 0, none⟩, W.length, cp9⟩ (whs t W.sum W), rowRs ⟨some ⟨b10, 0, none⟩, W.length, cp10⟩ ys] ++ F) := Holds.sel (L := [_, _]) H' [1, 0] 2 rfl rfl
                  have hyl : ys.length = W.length := hys.1.length_eq.trans hrl
                  have hyat : ∀ k (h : k < ys.length), ys[k].2 < W.length := fun k h => by
                    have hm : ys[k] ∈ rl t W.sum W := hys.1.mem_iff.1 (by simp)
                    obtain ⟨i, hi, he⟩ := List.mem_iff_getElem.1 hm
                    rw [← he, rl_get]; omega
                  refine wpO_nil ?_
                  refine wpF_seq ?_
                  refine wpF_seq ?_
                  refine wpF_region rfl ?_   -- R26
                  refine wpO_val rfl (x_moveL rfl) ?_
                  refine wpO_val rfl (x_moveI rfl) ?_
                  refine wpO_val rfl (x_sliceTo Tryz.underlying195 Tryz.sizeOf199 rfl rfl (by omega) (by show (l : Int) ≤ (cp10 : Nat); omega)) ?_
                  refine wpO_val rfl (x_lenSl Tryz.underlying195 rfl) ?_
                  refine wpO_val rfl (x_moveI rfl) ?_
                  refine wpO_nil ?_
                  refine wpF_block ?_   -- block 5
                  refine wpF_loop (fun q f w => ∃ k f0, (k ≤ l ∧ q = l - k) ∧ Holds c g w ([rowO ⟨some ⟨b9, 0, none⟩, W.length, cp9⟩ (give (whs t W.sum W) (ys.take k)), rowRs ⟨some ⟨b10, 0, none⟩, W.length, cp10⟩ ys] ++ F) ∧ f = updL f0 [(9, .slice (some ⟨b9, 0, none⟩) W.length cp9), (82, .slice (some ⟨b10, 0, none⟩) l cp10), (83, .int .i64 (l : Nat)), (84, .int .i64 (k : Nat))]) l ?_ ?_
                  · exact ⟨0, _, ⟨by omega, by omega⟩, H, updL_eta ⟨rfl, rfl, rfl, rfl, trivial⟩⟩
                  · rintro q f w ⟨k, f0, ⟨hk, hn⟩, H, rfl⟩
                    refine wpF_seq ?_
                    refine wpF_region rfl ?_   -- R27
                    refine wpO_val rfl (x_cmp rfl rfl rfl rfl) ?_
                    refine wpO_nil ?_
                    refine wpF_seq ?_
                    refine wpF_cond _ rfl (fun hc => ?_) (fun hc => ?_)   -- t85
                    ·
                      have hk' : k < l := by simpa using hc
                      have hky : k < ys.length := by omega
                      have hat := hyat k hky
                      have hgl : (give (whs t W.sum W) (ys.take k)).length = W.length := by rw [give_len]; simp [whs]
                      obtain ⟨o, ho⟩ : ∃ o, o = (give (whs t W.sum W) (ys.take k)).getD ys[k].2 0 := ⟨_, rfl⟩
                      have hog : (give (whs t W.sum W) (ys.take k))[ys[k].2]? = some o := by
                        rw [ho, List.getD_eq_getElem?_getD, List.getElem?_eq_getElem (by omega)]; rfl
                      have hob : 0 ≤ o ∧ o ≤ 1125899906842624 + 0 + (ys.take k).length := give_le (M := 1125899906842624) (ys.take k) (whs t W.sum W) 0 (fun x hx => by
                        obtain ⟨y, hy, rfl⟩ := List.mem_map.1 hx
                        have := hpart y hy; omega) (by omega) (by omega) o (List.mem_of_getElem? hog)
                      have htl : (ys.take k).length ≤ 20 := by rw [List.length_take]; omega
                      refine wpF_skip ?_
                      refine wpF_seq ?_
                      refine wpF_block ?_   -- block 6
                      refine wpF_seq ?_
                      refine wpF_region rfl ?_   -- R28
                      refine wpO_val rfl (x_indexSl Tryz.underlying195 Tryz.sizeOf199 rfl rfl (by omega) (by omega)) ?_
                      refine wpO_val rfl (x_loadRow H 1 rfl elR rfl (List.getElem?_eq_getElem hky)) ?_
                      refine wpO_eff rfl (e_alloc H Tryz.zeroValue199 fun b18 w H => ?_)
                      refine wpO_eff0 rfl (e_storeAll H 2 rfl Tryz.sizeOf199 rfl rfl rfl rfl rfl fun w H => ?_)
                      refine wpO_nil ?_
                      refine wpF_region rfl ?_   -- R29
                      refine wpO_val rfl (x_moveL rfl) ?_
                      refine wpO_val rfl (x_fieldAddrN Tryz.underlying199 rfl Tryz.sizeOf3 rfl rfl) ?_
                      refine wpO_val rfl (x_load0bI Tryz.isAgg3 rfl (H.getF 2 rfl) rfl) ?_
                      refine wpO_val rfl (x_indexSl Tryz.underlying60 Tryz.sizeOf2 rfl rfl (by omega) (by omega)) ?_
                      refine wpO_val rfl (x_loadRow H 0 rfl elint64 rfl hog) ?_
                      refine wpO_val rfl (x_arithV (o + 1) rfl rfl (w64 (n := o + 1) (by omega) (by omega))) ?_
                      refine wpO_val rfl (x_indexSl Tryz.underlying60 Tryz.sizeOf2 rfl rfl (by omega) (by omega)) ?_
                      refine wpO_eff0 rfl (e_storeRow (k := ys[k].2) H 0 rfl elint64 (o + 1) rfl rfl (by omega) fun w H => ?_)
                      refine wpO_nil ?_
                      refine wpF_region rfl ?_   -- R30
                      refine wpO_val rfl (x_arith rfl rfl (fun _ => rfl) rfl) ?_
                      refine wpO_val rfl (x_moveI rfl) ?_
                      refine wpO_nil ?_
                      have H : Holds c g w ([rowO ⟨some ⟨b9, 0, none⟩, W.length, cp9⟩ (give (whs t W.sum W) (ys.take (k + 1))), rowRs ⟨some ⟨b10, 0, none⟩, W.length, cp10⟩ ys] ++ F) := by
                        rw [give_snoc _ hky, ← ho]
                        exact H.sel [0, 1] 3 rfl rfl
                      exact ⟨l - (k + 1), by omega, k + 1, _, ⟨by omega, rfl⟩, H, updL_eta ⟨rfl, rfl, rfl, vi64 (w64 (by omega) (by omega)), trivial⟩⟩
                    ·
                      have hkl : k = l := by simp at hc; omega
                      subst hkl
                      refine wpF_exit ?_   -- exit 5
                      refine wpF_seq ?_
                      refine wpF_region rfl ?_   -- R31
                      refine wpO_val rfl (x_moveL rfl) ?_
                      refine wpO_val rfl (x_assignL rfl) ?_
                      refine wpO_val rfl (x_assignI rfl) ?_
                      refine wpO_nil ?_
                      refine wpF_ret ?_
                      repeat (with_reducible first | refine thenF_r ?_ | refine inBlockF_r ?_)
                      refine end_tt rfl rfl rfl ?_   -- tmp:4 tmp:5
                      obtain ⟨g', hle, H, hr⟩ := Holds.sealRow (enc := encI) (xs := give (whs t W.sum W) (ys.take k)) (show Holds c g w (rowA 2 1 ⟨some ⟨b9, 0, none⟩, W.length, cp9⟩ (flat encI (give (whs t W.sum W) (ys.take k))) :: F) from H.sel [0] 2 rfl rfl) rfl (fun _ _ => rfl) (by decide)
                      exact ⟨_, g', ys, W, hW, rfl, hys, hle, by rw [hl]; exact hr, H⟩
-- >> share_c
end Go.Proofs.YtfoginganpgmcaaGreat
