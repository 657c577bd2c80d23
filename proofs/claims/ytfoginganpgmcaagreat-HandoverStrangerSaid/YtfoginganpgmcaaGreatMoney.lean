/- money: amounts. -/
import Derived.Test.YtfoginganpgmcaaGreatCoreS
import Derived.Test.YtfoginganpgmcaaGreatCoreF
import Derived.Test.YtfoginganpgmcaaGreatTypes
set_option linter.unusedSimpArgs false
set_option linter.unusedVariables false
namespace Go.Proofs.YtfoginganpgmcaaGreat
open Go Go.Tw
set_option maxRecDepth 100000

theorem w64 {n : Int} (h1 : -9223372036854775808 ≤ n) (h2 : n ≤ 9223372036854775807) : IntKind.i64.wrap n = n := by
  simp [IntKind.wrap, IntKind.signed, IntKind.bits]; omega
theorem vi64 {a b : Int} (h : a = b) : Value.int .i64 a = .int .i64 b := by rw [h]

theorem bq {x y : Bool} (h : x = y) : Value.bool y = .bool x := by rw [h]
theorem iq {k : IntKind} {x y : Int} (h : x = y) : Value.int k y = .int k x := by rw [h]

def encI (a : Int) : Value := .int .i64 a
theorem elint64 : ElLaw Tryz.prog 2 encI 1 := ⟨Tryz.sizeOf2, .inr ⟨Tryz.isAgg2, rfl, fun _ => rfl⟩, fun _ => rfl, fun _ => rfl⟩

def inM (a : Int) : Bool := decide (-1125899906842624 ≤ a) && decide (a ≤ 1125899906842624)
theorem inM_iff {a : Int} : inM a = true ↔ -1125899906842624 ≤ a ∧ a ≤ 1125899906842624 := by simp [inM]

theorem all_take {α : Type} {p : α → Bool} {xs : List α} {k : Nat} (h : k < xs.length) (ha : (xs.take k).all p = true) (hp : p xs[k] = true) : (xs.take (k + 1)).all p = true := by
  rw [List.take_succ_eq_append_getElem h, List.all_append, ha]; simp [hp]
theorem all_no {α : Type} {p : α → Bool} {xs : List α} {k : Nat} (h : k < xs.length) (hp : p xs[k] = false) : xs.all p = false := by
  rw [List.all_eq_false]; exact ⟨xs[k], by simp, by simp [hp]⟩
theorem all_end {α : Type} {p : α → Bool} {xs : List α} {k : Nat} (h : ¬ (k : Int) < xs.length) (ha : (xs.take k).all p = true) : xs.all p = true := by
  rwa [List.take_of_length_le (by omega)] at ha

/-- An amount, if it may be, and the error. -/
def mtold (a : Int) (ok : Bool) : Int × Int := if ok && inM a then (a, 0) else (0, 7)
def pair2 (p : Int × Int) : Value := .tuple #[.int .i64 p.1, .int .i64 p.2]
/-- Two amounts together, and the error. -/
def madd (a b : Int) : Int × Int := if inM a && inM b && inM (a + b) then (a + b, 0) else (0, 7)
def msumFrom : Int → List Int → Int × Int
  | a, [] => (a, 0)
  | a, x :: r => if (madd a x).2 = 0 then msumFrom (madd a x).1 r else (0, (madd a x).2)
def msum (l : List Int) : Int × Int := msumFrom 0 l

-- << may_c
theorem may_c {c : Cx} {g : Heap} {w : World} {F : List Asn} {s : Sl} {xs : List Int} (hs : SlR g encI 1 s xs) (hl : xs.length ≤ 9223372036854775807) (H : Holds c g w F) :
    Calls Tryz.prog 142 #[s.v] w (Ret fun v w' => v = .bool (xs.all inM) ∧ Holds c g w' F) := by
  have H : Holds c g w ([] ++ F) := H
  have hlen := hs.len
  -- tarmac/money.may  (function 191; params ['60']; results tmp:2; ntmps 18)
  refine calls_of_wpF Tryz.func142 rfl Tryz.ntmps142 rfl ?_
  refine wpF_seq ?_
  refine wpF_region rfl ?_   -- R0
  refine wpO_val rfl (x_assignB rfl) ?_
  refine wpO_nil ?_
  refine wpF_seq ?_
  refine wpF_seq ?_
  refine wpF_region rfl ?_   -- R1
  refine wpO_val rfl (x_moveL rfl) ?_
  refine wpO_val rfl (x_lenSl Tryz.underlying60 rfl) ?_
  refine wpO_val rfl (x_moveI rfl) ?_
  refine wpO_nil ?_
  refine wpF_block ?_   -- block 0
  refine wpF_loop (fun n f w => ∃ k f0, (k ≤ xs.length ∧ n = xs.length - k ∧ (xs.take k).all inM = true) ∧ Holds c g w ([] ++ F) ∧ f = updL f0 [(5, s.v), (6, .int .i64 s.len), (7, .int .i64 (k : Nat))]) xs.length ?_ ?_
  · exact ⟨0, _, ⟨by omega, by omega, by simp⟩, H, updL_eta ⟨rfl, rfl, rfl, trivial⟩⟩
  · rintro n f w ⟨k, f0, ⟨hk, hn, hall⟩, H, rfl⟩
    refine wpF_seq ?_
    refine wpF_region rfl ?_   -- R2
    refine wpO_val rfl (x_cmp rfl rfl rfl rfl) ?_
    refine wpO_nil ?_
    refine wpF_seq ?_
    refine wpF_cond _ rfl (fun hc => ?_) (fun hc => ?_)   -- t8
    ·
      have hk' : k < xs.length := by rw [← hlen]; simpa using hc
      refine wpF_skip ?_
      refine wpF_seq ?_
      refine wpF_block ?_   -- block 1
      refine wpF_seq ?_
      refine wpF_region rfl ?_   -- R3
      refine wpO_val rfl (x_indexEl hs Tryz.underlying60 Tryz.sizeOf2 rfl rfl (by omega) (by omega)) ?_
      refine wpO_val rfl (x_loadEl elint64 hs H rfl (List.getElem?_eq_getElem hk')) ?_
      refine wpO_val rfl (x_assignI rfl) ?_
      refine wpO_nil ?_
      refine wpF_seq ?_
      refine wpF_region rfl ?_   -- R4
      refine wpO_val rfl (x_moveI rfl) ?_
      refine wpO_val rfl (x_cmp rfl rfl rfl rfl) ?_
      refine wpO_val rfl (x_moveB rfl) ?_
      refine wpO_split 13 rfl (fun hb13 => ?_) (fun hb13 => ?_)
      ·
        refine wpO_not rfl ?_
        refine wpO_not rfl ?_
        refine wpO_val rfl (x_pickB rfl rfl) ?_
        refine wpO_nil ?_
        refine wpF_true rfl ?_
        refine wpF_seq ?_
        refine wpF_region rfl ?_   -- R5
        refine wpO_val rfl (x_assignB rfl) ?_
        refine wpO_nil ?_
        refine wpF_ret ?_
        repeat (with_reducible first | refine thenF_r ?_ | refine inBlockF_r ?_)
        refine end_t rfl rfl ?_   -- tmp:2
        exact ⟨bq (all_no hk' (by simp [inM] at hb13 ⊢; omega)), H⟩
      ·
        refine wpO_val rfl (x_moveI rfl) ?_
        refine wpO_val rfl (x_cmp rfl rfl rfl rfl) ?_
        refine wpO_val rfl (x_pickB rfl rfl) ?_
        refine wpO_nil ?_
        refine wpF_cond _ rfl (fun hc => ?_) (fun hc => ?_)   -- t16
        ·
          refine wpF_seq ?_
          refine wpF_region rfl ?_   -- R5
          refine wpO_val rfl (x_assignB rfl) ?_
          refine wpO_nil ?_
          refine wpF_ret ?_
          repeat (with_reducible first | refine thenF_r ?_ | refine inBlockF_r ?_)
          refine end_t rfl rfl ?_   -- tmp:2
          exact ⟨bq (all_no hk' (by simp [inM] at hb13 hc ⊢; omega)), H⟩
        ·
          refine wpF_skip ?_
          refine wpF_region rfl ?_   -- R6
          refine wpO_val rfl (x_arith rfl rfl (fun _ => rfl) rfl) ?_
          refine wpO_val rfl (x_moveI rfl) ?_
          refine wpO_nil ?_
          refine ⟨xs.length - (k + 1), by omega, k + 1, _, ⟨by omega, rfl, all_take hk' hall (by simp [inM] at hb13 hc ⊢; omega)⟩, H, updL_eta ⟨rfl, rfl, vi64 (w64 (by omega) (by omega)), trivial⟩⟩
    ·
      refine wpF_exit ?_   -- exit 0
      refine wpF_seq ?_
      refine wpF_region rfl ?_   -- R7
      refine wpO_val rfl (x_assignB rfl) ?_
      refine wpO_nil ?_
      refine wpF_ret ?_
      repeat (with_reducible first | refine thenF_r ?_ | refine inBlockF_r ?_)
      refine end_t rfl rfl ?_   -- tmp:2
      exact ⟨bq (all_end (by rw [← hlen]; simpa using hc) hall), H⟩
-- >> may_c
-- << told_c
theorem told_c {c : Cx} {g : Heap} {w : World} {F : List Asn} (a : Int) (ok : Bool) (H : Holds c g w F) :
    Calls Tryz.prog 141 #[.int .i64 a, .bool ok] w (Ret fun v w' => v = pair2 (mtold a ok) ∧ Holds c g w' F) := by
  have H : Holds c g w ([] ++ F) := H
  -- tarmac/money.told  (function 190; params ['2', '4']; results tmp:4 tmp:5; ntmps 15)
  refine calls_of_wpF Tryz.func141 rfl Tryz.ntmps141 rfl ?_
  refine wpF_seq ?_
  refine wpF_region rfl ?_   -- R0
  refine wpO_val rfl (x_assignI rfl) ?_
  refine wpO_val rfl (x_assignI rfl) ?_
  refine wpO_nil ?_
  refine wpF_seq ?_
  refine wpF_seq ?_
  refine wpF_region rfl ?_   -- R1
  refine wpO_val rfl (x_moveB rfl) ?_
  refine wpO_val rfl (x_not rfl) ?_
  refine wpO_val rfl (x_moveB rfl) ?_
  refine wpO_split 8 rfl (fun hb8 => ?_) (fun hb8 => ?_)
  ·
    refine wpO_not rfl ?_
    refine wpO_not rfl ?_
    refine wpO_not rfl ?_
    refine wpO_not rfl ?_
    refine wpO_val rfl (x_pickB rfl rfl) ?_
    refine wpO_nil ?_
    refine wpF_true rfl ?_
    refine wpF_seq ?_
    refine wpF_region rfl ?_   -- R2
    refine wpO_val rfl (x_assignI rfl) ?_
    refine wpO_val rfl (x_assignI rfl) ?_
    refine wpO_nil ?_
    refine wpF_ret ?_
    repeat (with_reducible first | refine thenF_r ?_ | refine inBlockF_r ?_)
    refine end_tt rfl rfl rfl ?_   -- tmp:4 tmp:5
    exact ⟨congrArg pair2 (show ((0 : Int), (7 : Int)) = mtold a ok by simp at hb8; simp [mtold, hb8]), H⟩
  ·
    refine wpO_val rfl (x_moveI rfl) ?_
    refine wpO_eff rfl (e_buildSlice H Tryz.underlying60 Tryz.sizeOf2 Tryz.zeroValue2 rfl rfl (vs := [encI a]) rfl rfl (cs := [encI a]) rfl fun b10 w H => ?_)
    obtain ⟨g', hle, H, hs⟩ := Holds.sealLit (xs := [a]) (enc := encI) (m := 1) H rfl rfl (fun _ _ => rfl)
    refine wpO_eff rfl (e_callF Tryz.call142 rfl ((may_c hs (by simp) H).mono (Ret.mono ?_)))
    rintro v11 w ⟨rfl, H⟩
    refine wpO_val rfl (x_not rfl) ?_
    refine wpO_val rfl (x_pickB rfl rfl) ?_
    refine wpO_nil ?_
    refine wpF_cond _ rfl (fun hc => ?_) (fun hc => ?_)   -- t13
    ·
      have ha : inM a = false := by simpa using hc
      refine wpF_seq ?_
      refine wpF_region rfl ?_   -- R2
      refine wpO_val rfl (x_assignI rfl) ?_
      refine wpO_val rfl (x_assignI rfl) ?_
      refine wpO_nil ?_
      refine wpF_ret ?_
      repeat (with_reducible first | refine thenF_r ?_ | refine inBlockF_r ?_)
      refine end_tt rfl rfl rfl ?_   -- tmp:4 tmp:5
      exact ⟨congrArg pair2 (show ((0 : Int), (7 : Int)) = mtold a ok by simp [mtold, ha]), H.forget hle⟩
    ·
      have ha : inM a = true := by simpa using hc
      refine wpF_skip ?_
      refine wpF_seq ?_
      refine wpF_region rfl ?_   -- R3
      refine wpO_val rfl (x_moveI rfl) ?_
      refine wpO_val rfl (x_assignI rfl) ?_
      refine wpO_val rfl (x_assignI rfl) ?_
      refine wpO_nil ?_
      refine wpF_ret ?_
      repeat (with_reducible first | refine thenF_r ?_ | refine inBlockF_r ?_)
      refine end_tt rfl rfl rfl ?_   -- tmp:4 tmp:5
      exact ⟨congrArg pair2 (show (a, (0 : Int)) = mtold a ok by simp at hb8; simp [mtold, ha, hb8]), H.forget hle⟩
-- >> told_c
-- << mcheck_c
theorem mcheck_c {c : Cx} {g : Heap} {w : World} {F : List Asn} (a : Int) (H : Holds c g w F) :
    Calls Tryz.prog 122 #[.int .i64 a] w (Ret fun v w' => v = .int .i64 (if inM a then 0 else 7) ∧ Holds c g w' F) := by
  -- tarmac/money.Check  (function 205; params ['2']; results tmp:2; ntmps 11)
  refine calls_of_wpF Tryz.func122 rfl Tryz.ntmps122 rfl ?_
  refine wpF_seq ?_
  refine wpF_region rfl ?_   -- R0
  refine wpO_val rfl (x_assignI rfl) ?_
  refine wpO_nil ?_
  refine wpF_seq ?_
  refine wpF_region rfl ?_   -- R1
  refine wpO_val rfl (x_moveI rfl) ?_
  refine wpO_eff rfl (e_callF Tryz.call141 rfl ((told_c _ _ H).mono (Ret.mono ?_)))   -- of t6 ('app', 'Go.Value.bool', [('app', 'true', [])])
  rintro v7 w ⟨rfl, H⟩
  refine wpO_val rfl (x_moveT rfl) ?_
  refine wpO_val rfl (x_extract rfl rfl) ?_
  refine wpO_val rfl (x_extract rfl rfl) ?_
  refine wpO_val rfl (x_assignI rfl) ?_
  refine wpO_val rfl (x_assignI rfl) ?_
  refine wpO_nil ?_
  refine wpF_seq ?_
  refine wpF_region rfl ?_   -- R2
  refine wpO_val rfl (x_moveI rfl) ?_
  refine wpO_val rfl (x_assignI rfl) ?_
  refine wpO_nil ?_
  refine wpF_ret ?_
  repeat (with_reducible first | refine thenF_r ?_ | refine inBlockF_r ?_)
  refine end_t rfl rfl ?_   -- tmp:2
  exact ⟨iq (by simp only [mtold]; cases inM a <;> rfl), H⟩
-- >> mcheck_c
-- << madd_c
theorem madd_c {c : Cx} {g : Heap} {w : World} {F : List Asn} (a b : Int) (H : Holds c g w F) :
    Calls Tryz.prog 166 #[.int .i64 a, .int .i64 b] w (Ret fun v w' => v = pair2 (madd a b) ∧ Holds c g w' F) := by
  have H : Holds c g w ([] ++ F) := H
  -- tarmac/money.Add  (function 163; params ['2', '2']; results tmp:4 tmp:5; ntmps 16)
  refine calls_of_wpF Tryz.func166 rfl Tryz.ntmps166 rfl ?_
  refine wpF_seq ?_
  refine wpF_region rfl ?_   -- R0
  refine wpO_val rfl (x_assignI rfl) ?_
  refine wpO_val rfl (x_assignI rfl) ?_
  refine wpO_nil ?_
  refine wpF_seq ?_
  refine wpF_region rfl ?_   -- R1
  refine wpO_val rfl (x_moveI rfl) ?_
  refine wpO_val rfl (x_moveI rfl) ?_
  refine wpO_val rfl (x_arith rfl rfl (fun _ => rfl) rfl) ?_
  refine wpO_val rfl (x_moveI rfl) ?_
  refine wpO_val rfl (x_moveI rfl) ?_
  refine wpO_eff rfl (e_buildSlice H Tryz.underlying60 Tryz.sizeOf2 Tryz.zeroValue2 rfl rfl (vs := [encI a, encI b]) rfl rfl (cs := [encI a, encI b]) rfl fun b11 w H => ?_)
  obtain ⟨g', hle, H, hs⟩ := Holds.sealLit (xs := [a, b]) (enc := encI) (m := 1) H rfl rfl (fun _ _ => rfl)
  refine wpO_eff rfl (e_callF Tryz.call142 rfl ((may_c hs (by simp) H).mono (Ret.mono ?_)))
  rintro v12 w ⟨rfl, H⟩
  refine wpO_eff rfl (e_callF Tryz.call141 rfl ((told_c _ _ H).mono (Ret.mono ?_)))   -- of t8 t12
  rintro v13 w ⟨rfl, H⟩
  have e : mtold (IntKind.i64.wrap (a + b)) ([a, b].all inM) = madd a b := by
    unfold mtold madd
    by_cases ha : inM a = true
    · by_cases hb : inM b = true
      · have h1 := inM_iff.1 ha
        have h2 := inM_iff.1 hb
        rw [w64 (by omega) (by omega)]
        simp [ha, hb]
      · simp [ha, hb]
    · simp [ha]
  rw [e]
  refine wpO_val rfl (x_extract rfl rfl) ?_
  refine wpO_val rfl (x_extract rfl rfl) ?_
  refine wpO_val rfl (x_assignI rfl) ?_
  refine wpO_val rfl (x_assignI rfl) ?_
  refine wpO_nil ?_
  refine wpF_ret ?_
  repeat (with_reducible first | refine thenF_r ?_ | refine inBlockF_r ?_)
  refine end_tt rfl rfl rfl ?_   -- tmp:4 tmp:5
  exact ⟨rfl, H.forget hle⟩
-- >> madd_c
-- << msum_c
theorem msum_c {c : Cx} {g : Heap} {w : World} {F : List Asn} {s : Sl} {xs : List Int} (hs : SlR g encI 1 s xs) (hl : xs.length ≤ 9223372036854775807) (H : Holds c g w F) :
    Calls Tryz.prog 140 #[s.v] w (Ret fun v w' => v = pair2 (msum xs) ∧ Holds c g w' F) := by
  have H : Holds c g w ([] ++ F) := H
  have hlen := hs.len
  -- tarmac/money.Sum  (function 138; params ['60']; results tmp:2 tmp:3; ntmps 27)
  refine calls_of_wpF Tryz.func140 rfl Tryz.ntmps140 rfl ?_
  refine wpF_seq ?_
  refine wpF_region rfl ?_   -- R0
  refine wpO_val rfl (x_assignI rfl) ?_
  refine wpO_val rfl (x_assignI rfl) ?_
  refine wpO_nil ?_
  refine wpF_seq ?_
  refine wpF_region rfl ?_   -- R1
  refine wpO_val rfl (x_assignI rfl) ?_
  refine wpO_nil ?_
  refine wpF_seq ?_
  refine wpF_seq ?_
  refine wpF_region rfl ?_   -- R2
  refine wpO_val rfl (x_moveL rfl) ?_
  refine wpO_val rfl (x_lenSl Tryz.underlying60 rfl) ?_
  refine wpO_val rfl (x_moveI rfl) ?_
  refine wpO_nil ?_
  refine wpF_block ?_   -- block 0
  refine wpF_loop (fun n f w => ∃ k f0 a, (k ≤ xs.length ∧ n = xs.length - k ∧ msum xs = msumFrom a (xs.drop k)) ∧ Holds c g w ([] ++ F) ∧ f = updL f0 [(4, .int .i64 a), (9, s.v), (10, .int .i64 s.len), (11, .int .i64 (k : Nat))]) xs.length ?_ ?_
  · exact ⟨0, _, 0, ⟨by omega, by omega, rfl⟩, H, updL_eta ⟨rfl, rfl, rfl, rfl, trivial⟩⟩
  · rintro n f w ⟨k, f0, a, ⟨hk, hn, hall⟩, H, rfl⟩
    refine wpF_seq ?_
    refine wpF_region rfl ?_   -- R3
    refine wpO_val rfl (x_cmp rfl rfl rfl rfl) ?_
    refine wpO_nil ?_
    refine wpF_seq ?_
    refine wpF_cond _ rfl (fun hc => ?_) (fun hc => ?_)   -- t12
    ·
      have hk' : k < xs.length := by rw [← hlen]; simpa using hc
      rw [List.drop_eq_getElem_cons hk', msumFrom] at hall
      refine wpF_skip ?_
      refine wpF_seq ?_
      refine wpF_block ?_   -- block 1
      refine wpF_seq ?_
      refine wpF_region rfl ?_   -- R4
      refine wpO_val rfl (x_indexEl hs Tryz.underlying60 Tryz.sizeOf2 rfl rfl (by omega) (by omega)) ?_
      refine wpO_val rfl (x_loadEl elint64 hs H rfl (List.getElem?_eq_getElem hk')) ?_
      refine wpO_val rfl (x_assignI rfl) ?_
      refine wpO_nil ?_
      refine wpF_seq ?_
      refine wpF_region rfl ?_   -- R5
      refine wpO_val rfl (x_moveI rfl) ?_
      refine wpO_val rfl (x_moveI rfl) ?_
      refine wpO_eff rfl (e_callF Tryz.call166 rfl ((madd_c a xs[k] H).mono (Ret.mono ?_)))
      rintro v18 w ⟨rfl, H⟩
      refine wpO_val rfl (x_moveT rfl) ?_
      refine wpO_val rfl (x_extract rfl rfl) ?_
      refine wpO_val rfl (x_extract rfl rfl) ?_
      refine wpO_val rfl (x_assignI rfl) ?_
      refine wpO_val rfl (x_assignI rfl) ?_
      refine wpO_nil ?_
      refine wpF_seq ?_
      refine wpF_seq ?_
      refine wpF_region rfl ?_   -- R6
      refine wpO_val rfl (x_moveI rfl) ?_
      refine wpO_val rfl (x_cmp rfl rfl rfl rfl) ?_
      refine wpO_nil ?_
      refine wpF_cond _ rfl (fun hc => ?_) (fun hc => ?_)   -- t22
      ·
        have hc : (madd a xs[k]).2 ≠ 0 := by simpa using hc
        refine wpF_seq ?_
        refine wpF_region rfl ?_   -- R7
        refine wpO_val rfl (x_moveI rfl) ?_
        refine wpO_val rfl (x_assignI rfl) ?_
        refine wpO_val rfl (x_assignI rfl) ?_
        refine wpO_nil ?_
        refine wpF_ret ?_
        repeat (with_reducible first | refine thenF_r ?_ | refine inBlockF_r ?_)
        refine end_tt rfl rfl rfl ?_   -- tmp:2 tmp:3
        exact ⟨congrArg pair2 (show ((0 : Int), _) = msum xs by rw [hall, if_neg hc]), H⟩
      ·
        have hc : (madd a xs[k]).2 = 0 := by simpa using hc
        rw [if_pos hc] at hall
        refine wpF_skip ?_
        refine wpF_region rfl ?_   -- R8
        refine wpO_val rfl (x_moveI rfl) ?_
        refine wpO_val rfl (x_assignI rfl) ?_
        refine wpO_nil ?_
        refine wpF_region rfl ?_   -- R9
        refine wpO_val rfl (x_arith rfl rfl (fun _ => rfl) rfl) ?_
        refine wpO_val rfl (x_moveI rfl) ?_
        refine wpO_nil ?_
        refine ⟨xs.length - (k + 1), by omega, k + 1, _, _, ⟨by omega, rfl, hall⟩, H, updL_eta ⟨rfl, rfl, rfl, vi64 (w64 (by omega) (by omega)), trivial⟩⟩
    ·
      have hc : ¬ (k : Int) < xs.length := by rw [← hlen]; simpa using hc
      rw [List.drop_eq_nil_of_le (by omega), msumFrom] at hall
      refine wpF_exit ?_   -- exit 0
      refine wpF_seq ?_
      refine wpF_region rfl ?_   -- R10
      refine wpO_val rfl (x_moveI rfl) ?_
      refine wpO_val rfl (x_assignI rfl) ?_
      refine wpO_val rfl (x_assignI rfl) ?_
      refine wpO_nil ?_
      refine wpF_ret ?_
      repeat (with_reducible first | refine thenF_r ?_ | refine inBlockF_r ?_)
      refine end_tt rfl rfl rfl ?_   -- tmp:2 tmp:3
      exact ⟨congrArg pair2 (show (a, (0 : Int)) = msum xs from hall.symm), H⟩
-- >> msum_c
def hvO (a b c d : Int) : Obj := .cells #[encI a, encI b, encI c, encI d] 215
theorem mixed : Tryz.prog.follows .mixedOrders = true := by kernel_rfl
theorem shr26 (a : Int) : a.fdiv (2 ^ min (26 : Int).toNat IntKind.i64.bits) = a / 67108864 := by
  rw [Int.fdiv_eq_ediv_of_nonneg _ (by decide)]
  rfl
theorem shr13 (a : Int) : a.fdiv (2 ^ min (13 : Int).toNat IntKind.i64.bits) = a / 8192 := by
  rw [Int.fdiv_eq_ediv_of_nonneg _ (by decide)]
  rfl
theorem and26 (a : Int) : IntKind.i64.wrap (BitVec.ofInt IntKind.i64.bits a &&& BitVec.ofInt IntKind.i64.bits 67108863).toNat = a % 67108864 := and_mask (a := a) (m := 26) (by omega)
theorem and13 (a : Int) : IntKind.i64.wrap (BitVec.ofInt IntKind.i64.bits a &&& BitVec.ofInt IntKind.i64.bits 8191).toNat = a % 8192 := and_mask (a := a) (m := 13) (by omega)
theorem part_step {a V b d r q : Int} (hr : r = V % d) (hq : q = V / d) (hV : 0 ≤ V) (hb : 0 ≤ b) (hb2 : b < 8192) (hd : 1 ≤ d) (hd2 : d ≤ 1099511627776) (ha : a ≤ 1125899906842624) (hN : V * 8192 + b ≤ a * d) :
    IntKind.i64.wrap (r * 2 ^ min (13 : Int).toNat IntKind.i64.bits) = r * 8192 ∧ IntKind.i64.wrap (BitVec.ofInt IntKind.i64.bits (r * 8192) ||| BitVec.ofInt IntKind.i64.bits b).toNat = r * 8192 + b ∧
    IntKind.i64.wrap (q * 2 ^ min (13 : Int).toNat IntKind.i64.bits) = q * 8192 ∧ IntKind.i64.wrap ((r * 8192 + b).tdiv d) = (r * 8192 + b) / d ∧ IntKind.i64.wrap (q * 8192 + (r * 8192 + b) / d) = (V * 8192 + b) / d ∧
    (r * 8192 + b).tmod d = (V * 8192 + b) % d := by
  have h1 : 0 ≤ r := by rw [hr]; exact Int.emod_nonneg _ (by omega)
  have h2 : r < d := by rw [hr]; exact Int.emod_lt_of_pos _ (by omega)
  have h3 : 0 ≤ q := by rw [hq]; exact Int.ediv_nonneg hV (by omega)
  have h4 : V = q * d + r := by rw [hr, hq, Int.mul_comm]; exact (Int.mul_ediv_add_emod V d).symm
  have h5 : V * 8192 + b = q * 8192 * d + (r * 8192 + b) := by rw [h4, Int.add_mul, Int.mul_right_comm]; omega
  have h6 : (V * 8192 + b) / d = q * 8192 + (r * 8192 + b) / d := by rw [h5, Int.add_comm, Int.add_mul_ediv_right _ _ (by omega), Int.add_comm]
  have h7 : (V * 8192 + b) % d = (r * 8192 + b) % d := by rw [h5, Int.add_comm, Int.add_mul_emod_self_right]
  have h8 : (V * 8192 + b) / d ≤ a := Int.ediv_le_of_le_mul (by omega) hN
  have h9 : 0 ≤ (r * 8192 + b) / d := Int.ediv_nonneg (by omega) (by omega)
  have h10 : (r * 8192 + b) / d < 8192 := Int.ediv_lt_of_lt_mul (by omega) (by omega)
  refine ⟨?_, ?_, ?_, ?_, ?_, ?_⟩
  · exact w64 (n := r * 8192) (by omega) (by omega)
  · exact or_low (r := r) (b := b) (m := 13) h1 hb hb2 (by show r * 8192 + b < _; omega)
  · exact w64 (n := q * 8192) (by omega) (by omega)
  · rw [Int.tdiv_eq_ediv_of_nonneg (by omega)]; exact w64 (by omega) (by omega)
  · rw [h6]; exact w64 (by omega) (by omega)
  · rw [h7, Int.tmod_eq_emod_of_nonneg (by omega)]
theorem mulB {x y p q : Int} (h1 : 0 ≤ x) (h2 : x ≤ p) (h3 : 0 ≤ y) (h4 : y ≤ q) : 0 ≤ x * y ∧ x * y ≤ p * q := ⟨Int.mul_nonneg h1 h3, Int.mul_le_mul h2 h4 h3 (by omega)⟩

-- << halves_c
theorem halves_c {c : Cx} {g : Heap} {w : World} {F : List Asn} (a n : Int) (ha : 0 ≤ a ∧ a ≤ 1125899906842624) (hn : 0 ≤ n ∧ n ≤ 1099511627776) (H : Holds c g w F) :
    Calls Tryz.prog 143 #[.int .i64 a, .int .i64 n] w (Ret fun v w' => v = .agg #[encI (a * n % 67108864), encI (a * n / 67108864 % 67108864), encI (a * n / 4503599627370496 % 67108864), encI (a * n / 302231454903657293676544)] ∧ Holds c g w' F) := by
  have H : Holds c g w ([] ++ F) := H
  obtain ⟨x0, hx0⟩ : ∃ x, x = a % 67108864 := ⟨_, rfl⟩
  obtain ⟨x1, hx1⟩ : ∃ x, x = a / 67108864 := ⟨_, rfl⟩
  obtain ⟨y0, hy0⟩ : ∃ x, x = n % 67108864 := ⟨_, rfl⟩
  obtain ⟨y1, hy1⟩ : ∃ x, x = n / 67108864 := ⟨_, rfl⟩
  obtain ⟨A, hA⟩ : ∃ x, x = x0 * y0 := ⟨_, rfl⟩
  obtain ⟨B, hB⟩ : ∃ x, x = x0 * y1 := ⟨_, rfl⟩
  obtain ⟨C, hC⟩ : ∃ x, x = x1 * y0 := ⟨_, rfl⟩
  obtain ⟨D, hD⟩ : ∃ x, x = x1 * y1 := ⟨_, rfl⟩
  have hA2 : 0 ≤ A ∧ A ≤ 67108863 * 67108863 := hA ▸ mulB (by omega) (by omega) (by omega) (by omega)
  have hB2 : 0 ≤ B ∧ B ≤ 67108863 * 16384 := hB ▸ mulB (by omega) (by omega) (by omega) (by omega)
  have hC2 : 0 ≤ C ∧ C ≤ 16777216 * 67108863 := hC ▸ mulB (by omega) (by omega) (by omega) (by omega)
  have hD2 : 0 ≤ D ∧ D ≤ 16777216 * 16384 := hD ▸ mulB (by omega) (by omega) (by omega) (by omega)
  have hN : a * n = D * 4503599627370496 + (B + C) * 67108864 + A := by
    have e1 : a = x1 * 67108864 + x0 := by omega
    have e2 : n = y1 * 67108864 + y0 := by omega
    rw [hA, hB, hC, hD, e1, e2]
    simp only [Int.add_mul, Int.mul_add]
    have k1 : x1 * 67108864 * (y1 * 67108864) = x1 * y1 * 4503599627370496 := by
      rw [Int.mul_assoc, Int.mul_left_comm 67108864, ← Int.mul_assoc x1 y1]; rfl
    have k2 : x1 * 67108864 * y0 = x1 * y0 * 67108864 := by rw [Int.mul_assoc, Int.mul_comm 67108864, ← Int.mul_assoc]
    have k3 : x0 * (y1 * 67108864) = x0 * y1 * 67108864 := by rw [Int.mul_assoc]
    omega
  obtain ⟨e1, he1⟩ : ∃ x, x = B + C + A / 67108864 := ⟨_, rfl⟩
  obtain ⟨e2, he2⟩ : ∃ x, x = D + e1 / 67108864 := ⟨_, rfl⟩
  -- tarmac/money.halves  (function 260; params ['2', '2']; results cell:4 334; ntmps 61)
  refine calls_of_wpF Tryz.func143 rfl Tryz.ntmps143 rfl ?_
  refine wpF_seq ?_
  refine wpF_region rfl ?_   -- R0
  refine wpO_eff rfl (e_alloc H Tryz.zeroValue215 fun b4 w H => ?_)
  refine wpO_nil ?_
  refine wpF_seq ?_
  refine wpF_region rfl ?_   -- R1
  refine wpO_eff rfl (e_alloc H Tryz.zeroValue215 fun b5 w H => ?_)
  refine wpO_nil ?_
  refine wpF_seq ?_
  refine wpF_seq ?_
  refine wpF_region rfl ?_   -- R2
  refine wpO_val rfl (x_moveI rfl) ?_
  refine wpO_val rfl (x_and x0 rfl rfl ((and26 a).trans hx0.symm)) ?_
  refine wpO_val rfl (x_moveI rfl) ?_
  refine wpO_val rfl (x_shr x1 rfl rfl (by decide) ((shr26 a).trans hx1.symm)) ?_
  refine wpO_val rfl (x_buildArr Tryz.underlying217 Tryz.sizeOf2 Tryz.zeroValue217 rfl rfl (vs := [encI x0, encI x1]) rfl rfl) ?_
  refine wpO_val rfl (x_moveI rfl) ?_
  refine wpO_nil ?_
  refine wpF_block ?_   -- block 0
  refine wpF_unroll 2 ?_
  refine wpLoop_s ?_
  refine wpF_seq ?_
  refine wpF_region rfl ?_   -- R3
  refine wpO_val rfl (x_cmp rfl rfl rfl rfl) ?_
  refine wpO_nil ?_
  refine wpF_seq ?_
  refine wpF_true rfl ?_
  refine wpF_skip ?_
  refine wpF_seq ?_
  refine wpF_block ?_   -- block 1
  refine wpF_seq ?_
  refine wpF_region rfl ?_   -- R4
  refine wpO_val rfl (x_moveI rfl) ?_
  refine wpO_val rfl (x_indexAgg0 Tryz.underlying217 Tryz.sizeOf2 Tryz.isAgg2 rfl rfl (by decide) (by decide) rfl) ?_
  refine wpO_val rfl (x_assignI rfl) ?_
  refine wpO_val rfl (x_assignI rfl) ?_
  refine wpO_nil ?_
  refine wpF_seq ?_
  refine wpF_region rfl ?_   -- R5
  refine wpO_val rfl (x_moveI rfl) ?_
  refine wpO_val rfl (x_and y0 rfl rfl ((and26 n).trans hy0.symm)) ?_
  refine wpO_val rfl (x_moveI rfl) ?_
  refine wpO_val rfl (x_shr y1 rfl rfl (by decide) ((shr26 n).trans hy1.symm)) ?_
  refine wpO_val rfl (x_buildArr Tryz.underlying217 Tryz.sizeOf2 Tryz.zeroValue217 rfl rfl (vs := [encI y0, encI y1]) rfl rfl) ?_
  refine wpO_val rfl (x_moveI rfl) ?_
  refine wpO_nil ?_
  refine wpF_block ?_   -- block 2
  refine wpF_unroll 2 ?_
  refine wpLoop_s ?_
  refine wpF_seq ?_
  refine wpF_region rfl ?_   -- R6
  refine wpO_val rfl (x_cmp rfl rfl rfl rfl) ?_
  refine wpO_nil ?_
  refine wpF_seq ?_
  refine wpF_true rfl ?_
  refine wpF_skip ?_
  refine wpF_seq ?_
  refine wpF_block ?_   -- block 3
  refine wpF_seq ?_
  refine wpF_region rfl ?_   -- R7
  refine wpO_val rfl (x_moveI rfl) ?_
  refine wpO_val rfl (x_indexAgg0 Tryz.underlying217 Tryz.sizeOf2 Tryz.isAgg2 rfl rfl (by decide) (by decide) rfl) ?_
  refine wpO_val rfl (x_assignI rfl) ?_
  refine wpO_val rfl (x_assignI rfl) ?_
  refine wpO_nil ?_
  refine wpF_region rfl ?_   -- R8
  refine wpO_val rfl (x_moveI rfl) ?_
  refine wpO_val rfl (x_moveI rfl) ?_
  refine wpO_val rfl (x_arith rfl rfl (fun _ => rfl) rfl) ?_
  refine wpO_val rfl (x_indexArr Tryz.underlying215 Tryz.sizeOf2 rfl rfl (by decide) (by decide)) ?_
  refine wpO_val rfl (x_load0b Tryz.isAgg2 rfl (H.getF 1 rfl) rfl) ?_
  refine wpO_val rfl (x_moveI rfl) ?_
  refine wpO_val rfl (x_moveI rfl) ?_
  refine wpO_val rfl (x_arithV A rfl rfl (by show IntKind.i64.wrap (x0 * y0) = A; rw [← hA]; exact w64 (by omega) (by omega))) ?_
  refine wpO_val rfl (x_arithV A rfl rfl (by show IntKind.i64.wrap (0 + A) = A; rw [Int.zero_add]; exact w64 (by omega) (by omega))) ?_
  refine wpO_val rfl (x_indexArr Tryz.underlying215 Tryz.sizeOf2 rfl rfl (by decide) (by decide)) ?_
  refine wpO_eff0 rfl (e_store H 1 rfl Tryz.sizeOf2 rfl rfl rfl rfl rfl fun w H => ?_)
  have H : Holds c g w ([pt b4 (hvO 0 0 0 0), pt b5 (hvO A 0 0 0)] ++ F) := H
  refine wpO_nil ?_
  refine wpF_region rfl ?_   -- R9
  refine wpO_val rfl (x_arith rfl rfl (fun _ => rfl) rfl) ?_
  refine wpO_val rfl (x_moveI rfl) ?_
  refine wpO_nil ?_
  refine wpLoop_s ?_
  refine wpF_seq ?_
  refine wpF_region rfl ?_   -- R6
  refine wpO_val rfl (x_cmp rfl rfl rfl rfl) ?_
  refine wpO_nil ?_
  refine wpF_seq ?_
  refine wpF_true rfl ?_
  refine wpF_skip ?_
  refine wpF_seq ?_
  refine wpF_block ?_   -- block 3
  refine wpF_seq ?_
  refine wpF_region rfl ?_   -- R7
  refine wpO_val rfl (x_moveI rfl) ?_
  refine wpO_val rfl (x_indexAgg0 Tryz.underlying217 Tryz.sizeOf2 Tryz.isAgg2 rfl rfl (by decide) (by decide) rfl) ?_
  refine wpO_val rfl (x_assignI rfl) ?_
  refine wpO_val rfl (x_assignI rfl) ?_
  refine wpO_nil ?_
  refine wpF_region rfl ?_   -- R8
  refine wpO_val rfl (x_moveI rfl) ?_
  refine wpO_val rfl (x_moveI rfl) ?_
  refine wpO_val rfl (x_arith rfl rfl (fun _ => rfl) rfl) ?_
  refine wpO_val rfl (x_indexArr Tryz.underlying215 Tryz.sizeOf2 rfl rfl (by decide) (by decide)) ?_
  refine wpO_val rfl (x_load0b Tryz.isAgg2 rfl (H.getF 1 rfl) rfl) ?_
  refine wpO_val rfl (x_moveI rfl) ?_
  refine wpO_val rfl (x_moveI rfl) ?_
  refine wpO_val rfl (x_arithV B rfl rfl (by show IntKind.i64.wrap (x0 * y1) = B; rw [← hB]; exact w64 (by omega) (by omega))) ?_
  refine wpO_val rfl (x_arithV B rfl rfl (by show IntKind.i64.wrap (0 + B) = B; rw [Int.zero_add]; exact w64 (by omega) (by omega))) ?_
  refine wpO_val rfl (x_indexArr Tryz.underlying215 Tryz.sizeOf2 rfl rfl (by decide) (by decide)) ?_
  refine wpO_eff0 rfl (e_store H 1 rfl Tryz.sizeOf2 rfl rfl rfl rfl rfl fun w H => ?_)
  have H : Holds c g w ([pt b4 (hvO 0 0 0 0), pt b5 (hvO A B 0 0)] ++ F) := H
  refine wpO_nil ?_
  refine wpF_region rfl ?_   -- R9
  refine wpO_val rfl (x_arith rfl rfl (fun _ => rfl) rfl) ?_
  refine wpO_val rfl (x_moveI rfl) ?_
  refine wpO_nil ?_
  refine wpLoop_0 ?_
  refine wpF_seq ?_
  refine wpF_region rfl ?_   -- R6
  refine wpO_val rfl (x_cmp rfl rfl rfl rfl) ?_
  refine wpO_nil ?_
  refine wpF_seq ?_
  refine wpF_false rfl ?_
  refine wpF_exit ?_   -- exit 2
  refine wpF_region rfl ?_   -- R10
  refine wpO_val rfl (x_arith rfl rfl (fun _ => rfl) rfl) ?_
  refine wpO_val rfl (x_moveI rfl) ?_
  refine wpO_nil ?_
  refine wpLoop_s ?_
  refine wpF_seq ?_
  refine wpF_region rfl ?_   -- R3
  refine wpO_val rfl (x_cmp rfl rfl rfl rfl) ?_
  refine wpO_nil ?_
  refine wpF_seq ?_
  refine wpF_true rfl ?_
  refine wpF_skip ?_
  refine wpF_seq ?_
  refine wpF_block ?_   -- block 1
  refine wpF_seq ?_
  refine wpF_region rfl ?_   -- R4
  refine wpO_val rfl (x_moveI rfl) ?_
  refine wpO_val rfl (x_indexAgg0 Tryz.underlying217 Tryz.sizeOf2 Tryz.isAgg2 rfl rfl (by decide) (by decide) rfl) ?_
  refine wpO_val rfl (x_assignI rfl) ?_
  refine wpO_val rfl (x_assignI rfl) ?_
  refine wpO_nil ?_
  refine wpF_seq ?_
  refine wpF_region rfl ?_   -- R5
  refine wpO_val rfl (x_moveI rfl) ?_
  refine wpO_val rfl (x_and y0 rfl rfl ((and26 n).trans hy0.symm)) ?_
  refine wpO_val rfl (x_moveI rfl) ?_
  refine wpO_val rfl (x_shr y1 rfl rfl (by decide) ((shr26 n).trans hy1.symm)) ?_
  refine wpO_val rfl (x_buildArr Tryz.underlying217 Tryz.sizeOf2 Tryz.zeroValue217 rfl rfl (vs := [encI y0, encI y1]) rfl rfl) ?_
  refine wpO_val rfl (x_moveI rfl) ?_
  refine wpO_nil ?_
  refine wpF_block ?_   -- block 2
  refine wpF_unroll 2 ?_
  refine wpLoop_s ?_
  refine wpF_seq ?_
  refine wpF_region rfl ?_   -- R6
  refine wpO_val rfl (x_cmp rfl rfl rfl rfl) ?_
  refine wpO_nil ?_
  refine wpF_seq ?_
  refine wpF_true rfl ?_
  refine wpF_skip ?_
  refine wpF_seq ?_
  refine wpF_block ?_   -- block 3
  refine wpF_seq ?_
  refine wpF_region rfl ?_   -- R7
  refine wpO_val rfl (x_moveI rfl) ?_
  refine wpO_val rfl (x_indexAgg0 Tryz.underlying217 Tryz.sizeOf2 Tryz.isAgg2 rfl rfl (by decide) (by decide) rfl) ?_
  refine wpO_val rfl (x_assignI rfl) ?_
  refine wpO_val rfl (x_assignI rfl) ?_
  refine wpO_nil ?_
  refine wpF_region rfl ?_   -- R8
  refine wpO_val rfl (x_moveI rfl) ?_
  refine wpO_val rfl (x_moveI rfl) ?_
  refine wpO_val rfl (x_arith rfl rfl (fun _ => rfl) rfl) ?_
  refine wpO_val rfl (x_indexArr Tryz.underlying215 Tryz.sizeOf2 rfl rfl (by decide) (by decide)) ?_
  refine wpO_val rfl (x_load0b Tryz.isAgg2 rfl (H.getF 1 rfl) rfl) ?_
  refine wpO_val rfl (x_moveI rfl) ?_
  refine wpO_val rfl (x_moveI rfl) ?_
  refine wpO_val rfl (x_arithV C rfl rfl (by show IntKind.i64.wrap (x1 * y0) = C; rw [← hC]; exact w64 (by omega) (by omega))) ?_
  refine wpO_val rfl (x_arithV (B + C) rfl rfl (w64 (n := B + C) (by omega) (by omega))) ?_
  refine wpO_val rfl (x_indexArr Tryz.underlying215 Tryz.sizeOf2 rfl rfl (by decide) (by decide)) ?_
  refine wpO_eff0 rfl (e_store H 1 rfl Tryz.sizeOf2 rfl rfl rfl rfl rfl fun w H => ?_)
  have H : Holds c g w ([pt b4 (hvO 0 0 0 0), pt b5 (hvO A (B + C) 0 0)] ++ F) := H
  refine wpO_nil ?_
  refine wpF_region rfl ?_   -- R9
  refine wpO_val rfl (x_arith rfl rfl (fun _ => rfl) rfl) ?_
  refine wpO_val rfl (x_moveI rfl) ?_
  refine wpO_nil ?_
  refine wpLoop_s ?_
  refine wpF_seq ?_
  refine wpF_region rfl ?_   -- R6
  refine wpO_val rfl (x_cmp rfl rfl rfl rfl) ?_
  refine wpO_nil ?_
  refine wpF_seq ?_
  refine wpF_true rfl ?_
  refine wpF_skip ?_
  refine wpF_seq ?_
  refine wpF_block ?_   -- block 3
  refine wpF_seq ?_
  refine wpF_region rfl ?_   -- R7
  refine wpO_val rfl (x_moveI rfl) ?_
  refine wpO_val rfl (x_indexAgg0 Tryz.underlying217 Tryz.sizeOf2 Tryz.isAgg2 rfl rfl (by decide) (by decide) rfl) ?_
  refine wpO_val rfl (x_assignI rfl) ?_
  refine wpO_val rfl (x_assignI rfl) ?_
  refine wpO_nil ?_
  refine wpF_region rfl ?_   -- R8
  refine wpO_val rfl (x_moveI rfl) ?_
  refine wpO_val rfl (x_moveI rfl) ?_
  refine wpO_val rfl (x_arith rfl rfl (fun _ => rfl) rfl) ?_
  refine wpO_val rfl (x_indexArr Tryz.underlying215 Tryz.sizeOf2 rfl rfl (by decide) (by decide)) ?_
  refine wpO_val rfl (x_load0b Tryz.isAgg2 rfl (H.getF 1 rfl) rfl) ?_
  refine wpO_val rfl (x_moveI rfl) ?_
  refine wpO_val rfl (x_moveI rfl) ?_
  refine wpO_val rfl (x_arithV D rfl rfl (by show IntKind.i64.wrap (x1 * y1) = D; rw [← hD]; exact w64 (by omega) (by omega))) ?_
  refine wpO_val rfl (x_arithV D rfl rfl (by show IntKind.i64.wrap (0 + D) = D; rw [Int.zero_add]; exact w64 (by omega) (by omega))) ?_
  refine wpO_val rfl (x_indexArr Tryz.underlying215 Tryz.sizeOf2 rfl rfl (by decide) (by decide)) ?_
  refine wpO_eff0 rfl (e_store H 1 rfl Tryz.sizeOf2 rfl rfl rfl rfl rfl fun w H => ?_)
  have H : Holds c g w ([pt b4 (hvO 0 0 0 0), pt b5 (hvO A (B + C) D 0)] ++ F) := H
  refine wpO_nil ?_
  refine wpF_region rfl ?_   -- R9
  refine wpO_val rfl (x_arith rfl rfl (fun _ => rfl) rfl) ?_
  refine wpO_val rfl (x_moveI rfl) ?_
  refine wpO_nil ?_
  refine wpLoop_0 ?_
  refine wpF_seq ?_
  refine wpF_region rfl ?_   -- R6
  refine wpO_val rfl (x_cmp rfl rfl rfl rfl) ?_
  refine wpO_nil ?_
  refine wpF_seq ?_
  refine wpF_false rfl ?_
  refine wpF_exit ?_   -- exit 2
  refine wpF_region rfl ?_   -- R10
  refine wpO_val rfl (x_arith rfl rfl (fun _ => rfl) rfl) ?_
  refine wpO_val rfl (x_moveI rfl) ?_
  refine wpO_nil ?_
  refine wpLoop_0 ?_
  refine wpF_seq ?_
  refine wpF_region rfl ?_   -- R3
  refine wpO_val rfl (x_cmp rfl rfl rfl rfl) ?_
  refine wpO_nil ?_
  refine wpF_seq ?_
  refine wpF_false rfl ?_
  refine wpF_exit ?_   -- exit 0
  refine wpF_seq ?_
  refine wpF_seq ?_
  refine wpF_region rfl ?_   -- R11
  refine wpO_val rfl (x_moveI rfl) ?_
  refine wpO_nil ?_
  refine wpF_block ?_   -- block 4
  refine wpF_unroll 3 ?_
  refine wpLoop_s ?_
  refine wpF_seq ?_
  refine wpF_region rfl ?_   -- R12
  refine wpO_val rfl (x_cmp rfl rfl rfl rfl) ?_
  refine wpO_nil ?_
  refine wpF_seq ?_
  refine wpF_true rfl ?_
  refine wpF_skip ?_
  refine wpF_seq ?_
  refine wpF_block ?_   -- block 5
  refine wpF_seq ?_
  refine wpF_region rfl ?_   -- R13
  refine wpO_val rfl (x_moveI rfl) ?_
  refine wpO_val rfl (x_assignI rfl) ?_
  refine wpO_nil ?_
  refine wpF_seq ?_
  refine wpF_drawC [0, 1, 2, 3, 4, 5, 6, 7, 8, 9, 10] [10] [0, 0, 0, 0, 0, 0, 0, 0, 0, 0, 1] (fun _ _ => True) mixed (by kernel_rfl) rfl fun w hw => ?_   -- R14 DRAWS [(10, 'store')]
  have H := H.to hw
  refine wpDC_e rfl rfl rfl rfl (x_moveI rfl) ?_
  refine wpDC_e rfl rfl rfl rfl (x_arith rfl rfl (fun _ => rfl) rfl) ?_
  refine wpDC_e rfl rfl rfl rfl (x_indexArr Tryz.underlying215 Tryz.sizeOf2 rfl rfl (by decide) (by decide)) ?_
  refine wpDC_e rfl rfl rfl rfl (x_load0b Tryz.isAgg2 rfl (H.getF 1 rfl) rfl) ?_
  refine wpDC_e rfl rfl rfl rfl (x_moveI rfl) ?_
  refine wpDC_e rfl rfl rfl rfl (x_indexArr Tryz.underlying215 Tryz.sizeOf2 rfl rfl (by decide) (by decide)) ?_
  refine wpDC_e rfl rfl rfl rfl (x_load0b Tryz.isAgg2 rfl (H.getF 1 rfl) rfl) ?_
  refine wpDC_e rfl rfl rfl rfl (x_shr (A / 67108864) rfl rfl (by decide) (shr26 A)) ?_
  refine wpDC_e rfl rfl rfl rfl (x_arithV e1 rfl rfl (by rw [he1]; exact w64 (n := B + C + A / 67108864) (by omega) (by omega))) ?_
  refine wpDC_e rfl rfl rfl rfl (x_indexArr Tryz.underlying215 Tryz.sizeOf2 rfl rfl (by decide) (by decide)) ?_
  refine wpDC_eff0 rfl rfl rfl (e_store H 1 rfl Tryz.sizeOf2 rfl rfl rfl rfl rfl fun w H => ⟨trivial, ?_⟩)
  have H : Holds c g w ([pt b4 (hvO 0 0 0 0), pt b5 (hvO A e1 D 0)] ++ F) := H
  refine wpDC_nil ?_
  refine wpF_region rfl ?_   -- R15
  refine wpO_val rfl (x_moveI rfl) ?_
  refine wpO_val rfl (x_indexArr Tryz.underlying215 Tryz.sizeOf2 rfl rfl (by decide) (by decide)) ?_
  refine wpO_val rfl (x_load0b Tryz.isAgg2 rfl (H.getF 1 rfl) rfl) ?_
  refine wpO_val rfl (x_and (A % 67108864) rfl rfl (and26 A)) ?_
  refine wpO_val rfl (x_indexArr Tryz.underlying215 Tryz.sizeOf2 rfl rfl (by decide) (by decide)) ?_
  refine wpO_eff0 rfl (e_store H 1 rfl Tryz.sizeOf2 rfl rfl rfl rfl rfl fun w H => ?_)
  have H : Holds c g w ([pt b4 (hvO 0 0 0 0), pt b5 (hvO (A % 67108864) e1 D 0)] ++ F) := H
  refine wpO_nil ?_
  refine wpF_region rfl ?_   -- R16
  refine wpO_val rfl (x_arith rfl rfl (fun _ => rfl) rfl) ?_
  refine wpO_val rfl (x_moveI rfl) ?_
  refine wpO_nil ?_
  refine wpLoop_s ?_
  refine wpF_seq ?_
  refine wpF_region rfl ?_   -- R12
  refine wpO_val rfl (x_cmp rfl rfl rfl rfl) ?_
  refine wpO_nil ?_
  refine wpF_seq ?_
  refine wpF_true rfl ?_
  refine wpF_skip ?_
  refine wpF_seq ?_
  refine wpF_block ?_   -- block 5
  refine wpF_seq ?_
  refine wpF_region rfl ?_   -- R13
  refine wpO_val rfl (x_moveI rfl) ?_
  refine wpO_val rfl (x_assignI rfl) ?_
  refine wpO_nil ?_
  refine wpF_seq ?_
  refine wpF_drawC [0, 1, 2, 3, 4, 5, 6, 7, 8, 9, 10] [10] [0, 0, 0, 0, 0, 0, 0, 0, 0, 0, 1] (fun _ _ => True) mixed (by kernel_rfl) rfl fun w hw => ?_   -- R14 DRAWS [(10, 'store')]
  have H := H.to hw
  refine wpDC_e rfl rfl rfl rfl (x_moveI rfl) ?_
  refine wpDC_e rfl rfl rfl rfl (x_arith rfl rfl (fun _ => rfl) rfl) ?_
  refine wpDC_e rfl rfl rfl rfl (x_indexArr Tryz.underlying215 Tryz.sizeOf2 rfl rfl (by decide) (by decide)) ?_
  refine wpDC_e rfl rfl rfl rfl (x_load0b Tryz.isAgg2 rfl (H.getF 1 rfl) rfl) ?_
  refine wpDC_e rfl rfl rfl rfl (x_moveI rfl) ?_
  refine wpDC_e rfl rfl rfl rfl (x_indexArr Tryz.underlying215 Tryz.sizeOf2 rfl rfl (by decide) (by decide)) ?_
  refine wpDC_e rfl rfl rfl rfl (x_load0b Tryz.isAgg2 rfl (H.getF 1 rfl) rfl) ?_
  refine wpDC_e rfl rfl rfl rfl (x_shr (e1 / 67108864) rfl rfl (by decide) (shr26 e1)) ?_
  refine wpDC_e rfl rfl rfl rfl (x_arithV e2 rfl rfl (by rw [he2]; exact w64 (n := D + e1 / 67108864) (by omega) (by omega))) ?_
  refine wpDC_e rfl rfl rfl rfl (x_indexArr Tryz.underlying215 Tryz.sizeOf2 rfl rfl (by decide) (by decide)) ?_
  refine wpDC_eff0 rfl rfl rfl (e_store H 1 rfl Tryz.sizeOf2 rfl rfl rfl rfl rfl fun w H => ⟨trivial, ?_⟩)
  have H : Holds c g w ([pt b4 (hvO 0 0 0 0), pt b5 (hvO (A % 67108864) e1 e2 0)] ++ F) := H
  refine wpDC_nil ?_
  refine wpF_region rfl ?_   -- R15
  refine wpO_val rfl (x_moveI rfl) ?_
  refine wpO_val rfl (x_indexArr Tryz.underlying215 Tryz.sizeOf2 rfl rfl (by decide) (by decide)) ?_
  refine wpO_val rfl (x_load0b Tryz.isAgg2 rfl (H.getF 1 rfl) rfl) ?_
  refine wpO_val rfl (x_and (e1 % 67108864) rfl rfl (and26 e1)) ?_
  refine wpO_val rfl (x_indexArr Tryz.underlying215 Tryz.sizeOf2 rfl rfl (by decide) (by decide)) ?_
  refine wpO_eff0 rfl (e_store H 1 rfl Tryz.sizeOf2 rfl rfl rfl rfl rfl fun w H => ?_)
  have H : Holds c g w ([pt b4 (hvO 0 0 0 0), pt b5 (hvO (A % 67108864) (e1 % 67108864) e2 0)] ++ F) := H
  refine wpO_nil ?_
  refine wpF_region rfl ?_   -- R16
  refine wpO_val rfl (x_arith rfl rfl (fun _ => rfl) rfl) ?_
  refine wpO_val rfl (x_moveI rfl) ?_
  refine wpO_nil ?_
  refine wpLoop_s ?_
  refine wpF_seq ?_
  refine wpF_region rfl ?_   -- R12
  refine wpO_val rfl (x_cmp rfl rfl rfl rfl) ?_
  refine wpO_nil ?_
  refine wpF_seq ?_
  refine wpF_true rfl ?_
  refine wpF_skip ?_
  refine wpF_seq ?_
  refine wpF_block ?_   -- block 5
  refine wpF_seq ?_
  refine wpF_region rfl ?_   -- R13
  refine wpO_val rfl (x_moveI rfl) ?_
  refine wpO_val rfl (x_assignI rfl) ?_
  refine wpO_nil ?_
  refine wpF_seq ?_
  refine wpF_drawC [0, 1, 2, 3, 4, 5, 6, 7, 8, 9, 10] [10] [0, 0, 0, 0, 0, 0, 0, 0, 0, 0, 1] (fun _ _ => True) mixed (by kernel_rfl) rfl fun w hw => ?_   -- R14 DRAWS [(10, 'store')]
  have H := H.to hw
  refine wpDC_e rfl rfl rfl rfl (x_moveI rfl) ?_
  refine wpDC_e rfl rfl rfl rfl (x_arith rfl rfl (fun _ => rfl) rfl) ?_
  refine wpDC_e rfl rfl rfl rfl (x_indexArr Tryz.underlying215 Tryz.sizeOf2 rfl rfl (by decide) (by decide)) ?_
  refine wpDC_e rfl rfl rfl rfl (x_load0b Tryz.isAgg2 rfl (H.getF 1 rfl) rfl) ?_
  refine wpDC_e rfl rfl rfl rfl (x_moveI rfl) ?_
  refine wpDC_e rfl rfl rfl rfl (x_indexArr Tryz.underlying215 Tryz.sizeOf2 rfl rfl (by decide) (by decide)) ?_
  refine wpDC_e rfl rfl rfl rfl (x_load0b Tryz.isAgg2 rfl (H.getF 1 rfl) rfl) ?_
  refine wpDC_e rfl rfl rfl rfl (x_shr (e2 / 67108864) rfl rfl (by decide) (shr26 e2)) ?_
  refine wpDC_e rfl rfl rfl rfl (x_arithV (e2 / 67108864) rfl rfl (by show IntKind.i64.wrap (0 + e2 / 67108864) = e2 / 67108864; rw [Int.zero_add]; exact w64 (by omega) (by omega))) ?_
  refine wpDC_e rfl rfl rfl rfl (x_indexArr Tryz.underlying215 Tryz.sizeOf2 rfl rfl (by decide) (by decide)) ?_
  refine wpDC_eff0 rfl rfl rfl (e_store H 1 rfl Tryz.sizeOf2 rfl rfl rfl rfl rfl fun w H => ⟨trivial, ?_⟩)
  have H : Holds c g w ([pt b4 (hvO 0 0 0 0), pt b5 (hvO (A % 67108864) (e1 % 67108864) e2 (e2 / 67108864))] ++ F) := H
  refine wpDC_nil ?_
  refine wpF_region rfl ?_   -- R15
  refine wpO_val rfl (x_moveI rfl) ?_
  refine wpO_val rfl (x_indexArr Tryz.underlying215 Tryz.sizeOf2 rfl rfl (by decide) (by decide)) ?_
  refine wpO_val rfl (x_load0b Tryz.isAgg2 rfl (H.getF 1 rfl) rfl) ?_
  refine wpO_val rfl (x_and (e2 % 67108864) rfl rfl (and26 e2)) ?_
  refine wpO_val rfl (x_indexArr Tryz.underlying215 Tryz.sizeOf2 rfl rfl (by decide) (by decide)) ?_
  refine wpO_eff0 rfl (e_store H 1 rfl Tryz.sizeOf2 rfl rfl rfl rfl rfl fun w H => ?_)
  have H : Holds c g w ([pt b4 (hvO 0 0 0 0), pt b5 (hvO (A % 67108864) (e1 % 67108864) (e2 % 67108864) (e2 / 67108864))] ++ F) := H
  refine wpO_nil ?_
  refine wpF_region rfl ?_   -- R16
  refine wpO_val rfl (x_arith rfl rfl (fun _ => rfl) rfl) ?_
  refine wpO_val rfl (x_moveI rfl) ?_
  refine wpO_nil ?_
  refine wpLoop_0 ?_
  refine wpF_seq ?_
  refine wpF_region rfl ?_   -- R12
  refine wpO_val rfl (x_cmp rfl rfl rfl rfl) ?_
  refine wpO_nil ?_
  refine wpF_seq ?_
  refine wpF_false rfl ?_
  refine wpF_exit ?_   -- exit 4
  refine wpF_seq ?_
  refine wpF_region rfl ?_   -- R17
  refine wpO_val rfl (x_load1 Tryz.isAgg215 Tryz.sizeOf215 rfl (H.getF 1 rfl) rfl) ?_
  refine wpO_eff0 rfl (e_storeAll H 0 rfl Tryz.sizeOf215 rfl rfl rfl rfl rfl fun w H => ?_)
  refine wpO_nil ?_
  refine wpF_ret ?_
  repeat (with_reducible first | refine thenF_r ?_ | refine inBlockF_r ?_)
  refine end_c rfl rfl Tryz.isAgg215 Tryz.sizeOf215 (H.getF 0 rfl) rfl ?_   -- cell:4 334
  refine ⟨?_, H.sel [] 2 rfl rfl⟩
  rw [show a * n % 67108864 = A % 67108864 by omega, show a * n / 67108864 % 67108864 = e1 % 67108864 by omega, show a * n / 4503599627370496 % 67108864 = e2 % 67108864 by omega, show a * n / 302231454903657293676544 = e2 / 67108864 by omega]
  rfl
-- >> halves_c
-- << mpart_c
theorem mpart_c {c : Cx} {g : Heap} {w : World} {F : List Asn} (a n d : Int) (ha : 0 ≤ a ∧ a ≤ 1125899906842624) (hn : 0 ≤ n ∧ n ≤ d) (hd : 1 ≤ d ∧ d ≤ 1099511627776) (H : Holds c g w F) :
    Calls Tryz.prog 123 #[.int .i64 a, .int .i64 n, .int .i64 d] w (Ret fun v w' => v = .tuple #[.int .i64 (a * n / d), .int .i64 (a * n % d), .int .i64 0] ∧ Holds c g w' F) := by
  have H : Holds c g w ([] ++ F) := H
  have hM : inM a = true := inM_iff.2 ⟨by omega, by omega⟩
  have hNd : a * n ≤ a * d := Int.mul_le_mul_of_nonneg_left hn.2 ha.1
  have hN0 : 0 ≤ a * n := Int.mul_nonneg ha.1 hn.1
  obtain ⟨N, hN⟩ : ∃ x, x = a * n := ⟨_, rfl⟩
  rw [← hN] at hNd hN0 ⊢
  obtain ⟨p0, hp0⟩ : ∃ x, x = N % 67108864 := ⟨_, rfl⟩
  obtain ⟨p1, hp1⟩ : ∃ x, x = N / 67108864 % 67108864 := ⟨_, rfl⟩
  obtain ⟨p2, hp2⟩ : ∃ x, x = N / 4503599627370496 % 67108864 := ⟨_, rfl⟩
  obtain ⟨p3, hp3⟩ : ∃ x, x = N / 302231454903657293676544 := ⟨_, rfl⟩
  have hNb : N ≤ 1125899906842624 * 1099511627776 := by rw [hN]; exact Int.mul_le_mul ha.2 (by omega) hn.1 (by omega)
  obtain ⟨V1, hV1⟩ : ∃ x, x = (0 : Int) * 8192 + p3 / 8192 := ⟨_, rfl⟩
  obtain ⟨V2, hV2⟩ : ∃ x, x = V1 * 8192 + p3 % 8192 := ⟨_, rfl⟩
  obtain ⟨V3, hV3⟩ : ∃ x, x = V2 * 8192 + p2 / 8192 := ⟨_, rfl⟩
  obtain ⟨V4, hV4⟩ : ∃ x, x = V3 * 8192 + p2 % 8192 := ⟨_, rfl⟩
  obtain ⟨V5, hV5⟩ : ∃ x, x = V4 * 8192 + p1 / 8192 := ⟨_, rfl⟩
  obtain ⟨V6, hV6⟩ : ∃ x, x = V5 * 8192 + p1 % 8192 := ⟨_, rfl⟩
  obtain ⟨V7, hV7⟩ : ∃ x, x = V6 * 8192 + p0 / 8192 := ⟨_, rfl⟩
  obtain ⟨V8, hV8⟩ : ∃ x, x = V7 * 8192 + p0 % 8192 := ⟨_, rfl⟩
  have hV2' : V2 = p3 := by clear hV3 hV4 hV5 hV6 hV7 hV8; omega
  have hV4' : V4 = N / 4503599627370496 := by clear hV1 hV2 hV5 hV6 hV7 hV8; omega
  have hV6' : V6 = N / 67108864 := by clear hV1 hV2 hV3 hV4 hV7 hV8; omega
  have hV8' : V8 = N := by clear hV1 hV2 hV3 hV4 hV5 hV6; omega
  have ps1 := part_step (a := a) (V := (0 : Int)) (b := p3 / 8192) (d := d) (r := 0) (q := 0) (by simp) (by simp) (by omega) (by omega) (by omega) hd.1 hd.2 ha.2 (by omega)
  rw [← hV1] at ps1
  have ps2 := part_step (a := a) (V := V1) (b := p3 % 8192) (d := d) (r := V1 % d) (q := V1 / d) rfl rfl (by omega) (by omega) (by omega) hd.1 hd.2 ha.2 (by omega)
  rw [← hV2] at ps2
  have ps3 := part_step (a := a) (V := V2) (b := p2 / 8192) (d := d) (r := V2 % d) (q := V2 / d) rfl rfl (by omega) (by omega) (by omega) hd.1 hd.2 ha.2 (by omega)
  rw [← hV3] at ps3
  have ps4 := part_step (a := a) (V := V3) (b := p2 % 8192) (d := d) (r := V3 % d) (q := V3 / d) rfl rfl (by omega) (by omega) (by omega) hd.1 hd.2 ha.2 (by omega)
  rw [← hV4] at ps4
  have ps5 := part_step (a := a) (V := V4) (b := p1 / 8192) (d := d) (r := V4 % d) (q := V4 / d) rfl rfl (by omega) (by omega) (by omega) hd.1 hd.2 ha.2 (by omega)
  rw [← hV5] at ps5
  have ps6 := part_step (a := a) (V := V5) (b := p1 % 8192) (d := d) (r := V5 % d) (q := V5 / d) rfl rfl (by omega) (by omega) (by omega) hd.1 hd.2 ha.2 (by omega)
  rw [← hV6] at ps6
  have ps7 := part_step (a := a) (V := V6) (b := p0 / 8192) (d := d) (r := V6 % d) (q := V6 / d) rfl rfl (by omega) (by omega) (by omega) hd.1 hd.2 ha.2 (by omega)
  rw [← hV7] at ps7
  have ps8 := part_step (a := a) (V := V7) (b := p0 % 8192) (d := d) (r := V7 % d) (q := V7 / d) rfl rfl (by omega) (by omega) (by omega) hd.1 hd.2 ha.2 (by omega)
  rw [← hV8] at ps8
  -- tarmac/money.Part  (function 206; params ['2', '2', '2']; results tmp:6 tmp:7 tmp:8; ntmps 75)
  refine calls_of_wpF Tryz.func123 rfl Tryz.ntmps123 rfl ?_
  refine wpF_seq ?_
  refine wpF_region rfl ?_   -- R0
  refine wpO_val rfl (x_assignI rfl) ?_
  refine wpO_val rfl (x_assignI rfl) ?_
  refine wpO_val rfl (x_assignI rfl) ?_
  refine wpO_nil ?_
  refine wpF_seq ?_
  refine wpF_seq ?_
  refine wpF_region rfl ?_   -- R1
  refine wpO_val rfl (x_moveI rfl) ?_
  refine wpO_val rfl (x_cmp rfl rfl rfl rfl) ?_
  refine wpO_val rfl (x_moveB rfl) ?_
  refine wpO_split 17 rfl (fun hb17 => ?_) (fun hb17 => ?_)
  ·
    exfalso; simp at hb17; omega
  ·
    refine wpO_val rfl (x_moveI rfl) ?_
    refine wpO_eff rfl (e_buildSlice H Tryz.underlying60 Tryz.sizeOf2 Tryz.zeroValue2 rfl rfl (vs := [encI a]) rfl rfl (cs := [encI a]) rfl fun b19 w H => ?_)
    obtain ⟨g', hle, H, hs⟩ := Holds.sealLit (xs := [a]) (enc := encI) (m := 1) H rfl rfl (fun _ _ => rfl)
    have H : Holds c g' w ([] ++ F) := H
    refine wpO_eff rfl (e_callF Tryz.call142 rfl ((may_c hs (by simp) H).mono (Ret.mono ?_)))   -- of t19
    rintro v20 w ⟨rfl, H⟩
    refine wpO_val rfl (x_not rfl) ?_
    refine wpO_val rfl (x_pickB rfl rfl) ?_
    refine wpO_val rfl (x_moveB rfl) ?_
    refine wpO_split 23 rfl (fun hb23 => ?_) (fun hb23 => ?_)
    ·
      exfalso; simp [hM] at hb23
    ·
      refine wpO_val rfl (x_moveI rfl) ?_
      refine wpO_val rfl (x_cmp rfl rfl rfl rfl) ?_
      refine wpO_val rfl (x_pickB rfl rfl) ?_
      refine wpO_val rfl (x_moveB rfl) ?_
      refine wpO_split 27 rfl (fun hb27 => ?_) (fun hb27 => ?_)
      ·
        exfalso; simp at hb27; omega
      ·
        refine wpO_val rfl (x_moveI rfl) ?_
        refine wpO_val rfl (x_cmp rfl rfl rfl rfl) ?_
        refine wpO_val rfl (x_pickB rfl rfl) ?_
        refine wpO_val rfl (x_moveB rfl) ?_
        refine wpO_split 31 rfl (fun hb31 => ?_) (fun hb31 => ?_)
        ·
          exfalso; simp at hb31; omega
        ·
          refine wpO_val rfl (x_moveI rfl) ?_
          refine wpO_val rfl (x_moveI rfl) ?_
          refine wpO_val rfl (x_cmp rfl rfl rfl rfl) ?_
          refine wpO_val rfl (x_pickB rfl rfl) ?_
          refine wpO_val rfl (x_moveB rfl) ?_
          refine wpO_split 36 rfl (fun hb36 => ?_) (fun hb36 => ?_)
          ·
            exfalso; simp at hb36; omega
          ·
            refine wpO_val rfl (x_moveI rfl) ?_
            refine wpO_val rfl (x_cmp rfl rfl rfl rfl) ?_
            refine wpO_val rfl (x_pickB rfl rfl) ?_
            refine wpO_nil ?_
            refine wpF_cond _ rfl (fun hc => ?_) (fun hc => ?_)   -- t39
            ·
              exfalso; simp at hc; omega
            ·
              refine wpF_skip ?_
              refine wpF_seq ?_
              refine wpF_region rfl ?_   -- R3
              refine wpO_val rfl (x_assignI rfl) ?_
              refine wpO_val rfl (x_assignI rfl) ?_
              refine wpO_nil ?_
              refine wpF_seq ?_
              refine wpF_region rfl ?_   -- R4
              refine wpO_val rfl (x_moveI rfl) ?_
              refine wpO_val rfl (x_moveI rfl) ?_
              refine wpO_eff rfl (e_callF Tryz.call143 rfl ((halves_c a n (by omega) (by omega) H).mono (Ret.mono ?_)))
              rintro v42 w ⟨rfl, H⟩
              rw [← hN, ← hp0, ← hp1, ← hp2, ← hp3]
              refine wpO_eff rfl (e_alloc H Tryz.zeroValue215 fun b11 w H => ?_)
              refine wpO_eff0 rfl (e_storeAll H 0 rfl Tryz.sizeOf215 rfl rfl rfl rfl rfl fun w H => ?_)
              have H : Holds c g' w ([pt b11 (hvO p0 p1 p2 p3)] ++ F) := H
              refine wpO_nil ?_
              refine wpF_seq ?_
              refine wpF_seq ?_
              refine wpF_region rfl ?_   -- R5
              refine wpO_val rfl (x_assignI rfl) ?_
              refine wpO_nil ?_
              refine wpF_block ?_   -- block 0
              refine wpF_unroll 4 ?_
              refine wpLoop_s ?_
              refine wpF_seq ?_
              refine wpF_seq ?_
              refine wpF_region rfl ?_   -- R6
              refine wpO_val rfl (x_moveI rfl) ?_
              refine wpO_val rfl (x_cmp rfl rfl rfl rfl) ?_
              refine wpO_nil ?_
              refine wpF_true rfl ?_
              refine wpF_skip ?_
              refine wpF_seq ?_
              refine wpF_block ?_   -- block 1
              refine wpF_seq ?_
              refine wpF_drawC [0, 1, 2, 3, 4, 5, 6, 7, 8, 9] [] [0, 0, 0, 0, 0, 0, 0, 0, 0, 0] (fun _ _ => True) mixed (by kernel_rfl) rfl fun w hw => ?_   -- R8 DRAWS []
              have H := H.to hw
              refine wpDC_e rfl rfl rfl rfl (x_moveI rfl) ?_
              refine wpDC_e rfl rfl rfl rfl (x_indexArr Tryz.underlying215 Tryz.sizeOf2 rfl rfl (by decide) (by decide)) ?_
              refine wpDC_e rfl rfl rfl rfl (x_load0b Tryz.isAgg2 rfl (H.getF 0 rfl) rfl) ?_
              refine wpDC_e rfl rfl rfl rfl (x_shr (p3 / 8192) rfl rfl (by decide) (shr13 p3)) ?_
              refine wpDC_e rfl rfl rfl rfl (x_moveI rfl) ?_
              refine wpDC_e rfl rfl rfl rfl (x_indexArr Tryz.underlying215 Tryz.sizeOf2 rfl rfl (by decide) (by decide)) ?_
              refine wpDC_e rfl rfl rfl rfl (x_load0b Tryz.isAgg2 rfl (H.getF 0 rfl) rfl) ?_
              refine wpDC_e rfl rfl rfl rfl (x_and (p3 % 8192) rfl rfl (and13 p3)) ?_
              refine wpDC_e rfl rfl rfl rfl (x_buildArr Tryz.underlying217 Tryz.sizeOf2 Tryz.zeroValue217 rfl rfl (vs := [encI (p3 / 8192), encI (p3 % 8192)]) rfl rfl) ?_
              refine wpDC_e rfl rfl rfl rfl (x_moveI rfl) ?_
              refine wpDC_nil ?_
              refine wpF_block ?_   -- block 2
              refine wpF_unroll 2 ?_
              refine wpLoop_s ?_
              refine wpF_seq ?_
              refine wpF_region rfl ?_   -- R9
              refine wpO_val rfl (x_cmp rfl rfl rfl rfl) ?_
              refine wpO_nil ?_
              refine wpF_seq ?_
              refine wpF_true rfl ?_
              refine wpF_skip ?_
              refine wpF_seq ?_
              refine wpF_block ?_   -- block 3
              refine wpF_seq ?_
              refine wpF_region rfl ?_   -- R10
              refine wpO_val rfl (x_indexAgg0 Tryz.underlying217 Tryz.sizeOf2 Tryz.isAgg2 rfl rfl (by decide) (by decide) rfl) ?_
              refine wpO_val rfl (x_assignI rfl) ?_
              refine wpO_nil ?_
              refine wpF_seq ?_
              refine wpF_region rfl ?_   -- R11
              refine wpO_val rfl (x_moveI rfl) ?_
              refine wpO_val rfl (x_shl _ rfl rfl (by decide) ps1.1) ?_
              refine wpO_val rfl (x_moveI rfl) ?_
              refine wpO_val rfl (x_or _ rfl rfl ps1.2.1) ?_
              refine wpO_val rfl (x_assignI rfl) ?_
              refine wpO_nil ?_
              refine wpF_seq ?_
              refine wpF_region rfl ?_   -- R12
              refine wpO_val rfl (x_moveI rfl) ?_
              refine wpO_val rfl (x_shl _ rfl rfl (by decide) ps1.2.2.1) ?_
              refine wpO_val rfl (x_moveI rfl) ?_
              refine wpO_val rfl (x_moveI rfl) ?_
              refine wpO_val rfl (x_quo _ rfl rfl (by omega) ps1.2.2.2.1) ?_
              refine wpO_val rfl (x_arithV (V1 / d) rfl rfl ps1.2.2.2.2.1) ?_
              refine wpO_val rfl (x_assignI rfl) ?_
              refine wpO_nil ?_
              refine wpF_region rfl ?_   -- R13
              refine wpO_val rfl (x_moveI rfl) ?_
              refine wpO_val rfl (x_moveI rfl) ?_
              refine wpO_val rfl (x_rem (V1 % d) rfl rfl (by omega) ps1.2.2.2.2.2) ?_
              refine wpO_val rfl (x_assignI rfl) ?_
              refine wpO_nil ?_
              refine wpF_region rfl ?_   -- R14
              refine wpO_val rfl (x_arith rfl rfl (fun _ => rfl) rfl) ?_
              refine wpO_val rfl (x_moveI rfl) ?_
              refine wpO_nil ?_
              refine wpLoop_s ?_
              refine wpF_seq ?_
              refine wpF_region rfl ?_   -- R9
              refine wpO_val rfl (x_cmp rfl rfl rfl rfl) ?_
              refine wpO_nil ?_
              refine wpF_seq ?_
              refine wpF_true rfl ?_
              refine wpF_skip ?_
              refine wpF_seq ?_
              refine wpF_block ?_   -- block 3
              refine wpF_seq ?_
              refine wpF_region rfl ?_   -- R10
              refine wpO_val rfl (x_indexAgg0 Tryz.underlying217 Tryz.sizeOf2 Tryz.isAgg2 rfl rfl (by decide) (by decide) rfl) ?_
              refine wpO_val rfl (x_assignI rfl) ?_
              refine wpO_nil ?_
              refine wpF_seq ?_
              refine wpF_region rfl ?_   -- R11
              refine wpO_val rfl (x_moveI rfl) ?_
              refine wpO_val rfl (x_shl _ rfl rfl (by decide) ps2.1) ?_
              refine wpO_val rfl (x_moveI rfl) ?_
              refine wpO_val rfl (x_or _ rfl rfl ps2.2.1) ?_
              refine wpO_val rfl (x_assignI rfl) ?_
              refine wpO_nil ?_
              refine wpF_seq ?_
              refine wpF_region rfl ?_   -- R12
              refine wpO_val rfl (x_moveI rfl) ?_
              refine wpO_val rfl (x_shl _ rfl rfl (by decide) ps2.2.2.1) ?_
              refine wpO_val rfl (x_moveI rfl) ?_
              refine wpO_val rfl (x_moveI rfl) ?_
              refine wpO_val rfl (x_quo _ rfl rfl (by omega) ps2.2.2.2.1) ?_
              refine wpO_val rfl (x_arithV (V2 / d) rfl rfl ps2.2.2.2.2.1) ?_
              refine wpO_val rfl (x_assignI rfl) ?_
              refine wpO_nil ?_
              refine wpF_region rfl ?_   -- R13
              refine wpO_val rfl (x_moveI rfl) ?_
              refine wpO_val rfl (x_moveI rfl) ?_
              refine wpO_val rfl (x_rem (V2 % d) rfl rfl (by omega) ps2.2.2.2.2.2) ?_
              refine wpO_val rfl (x_assignI rfl) ?_
              refine wpO_nil ?_
              refine wpF_region rfl ?_   -- R14
              refine wpO_val rfl (x_arith rfl rfl (fun _ => rfl) rfl) ?_
              refine wpO_val rfl (x_moveI rfl) ?_
              refine wpO_nil ?_
              refine wpLoop_0 ?_
              refine wpF_seq ?_
              refine wpF_region rfl ?_   -- R9
              refine wpO_val rfl (x_cmp rfl rfl rfl rfl) ?_
              refine wpO_nil ?_
              refine wpF_seq ?_
              refine wpF_false rfl ?_
              refine wpF_exit ?_   -- exit 2
              refine wpF_region rfl ?_   -- R7
              refine wpO_val rfl (x_moveI rfl) ?_
              refine wpO_val rfl (x_arith rfl rfl (fun _ => rfl) rfl) ?_
              refine wpO_val rfl (x_assignI rfl) ?_
              refine wpO_nil ?_
              refine wpLoop_s ?_
              refine wpF_seq ?_
              refine wpF_seq ?_
              refine wpF_region rfl ?_   -- R6
              refine wpO_val rfl (x_moveI rfl) ?_
              refine wpO_val rfl (x_cmp rfl rfl rfl rfl) ?_
              refine wpO_nil ?_
              refine wpF_true rfl ?_
              refine wpF_skip ?_
              refine wpF_seq ?_
              refine wpF_block ?_   -- block 1
              refine wpF_seq ?_
              refine wpF_drawC [0, 1, 2, 3, 4, 5, 6, 7, 8, 9] [] [0, 0, 0, 0, 0, 0, 0, 0, 0, 0] (fun _ _ => True) mixed (by kernel_rfl) rfl fun w hw => ?_   -- R8 DRAWS []
              have H := H.to hw
              refine wpDC_e rfl rfl rfl rfl (x_moveI rfl) ?_
              refine wpDC_e rfl rfl rfl rfl (x_indexArr Tryz.underlying215 Tryz.sizeOf2 rfl rfl (by decide) (by decide)) ?_
              refine wpDC_e rfl rfl rfl rfl (x_load0b Tryz.isAgg2 rfl (H.getF 0 rfl) rfl) ?_
              refine wpDC_e rfl rfl rfl rfl (x_shr (p2 / 8192) rfl rfl (by decide) (shr13 p2)) ?_
              refine wpDC_e rfl rfl rfl rfl (x_moveI rfl) ?_
              refine wpDC_e rfl rfl rfl rfl (x_indexArr Tryz.underlying215 Tryz.sizeOf2 rfl rfl (by decide) (by decide)) ?_
              refine wpDC_e rfl rfl rfl rfl (x_load0b Tryz.isAgg2 rfl (H.getF 0 rfl) rfl) ?_
              refine wpDC_e rfl rfl rfl rfl (x_and (p2 % 8192) rfl rfl (and13 p2)) ?_
              refine wpDC_e rfl rfl rfl rfl (x_buildArr Tryz.underlying217 Tryz.sizeOf2 Tryz.zeroValue217 rfl rfl (vs := [encI (p2 / 8192), encI (p2 % 8192)]) rfl rfl) ?_
              refine wpDC_e rfl rfl rfl rfl (x_moveI rfl) ?_
              refine wpDC_nil ?_
              refine wpF_block ?_   -- block 2
              refine wpF_unroll 2 ?_
              refine wpLoop_s ?_
              refine wpF_seq ?_
              refine wpF_region rfl ?_   -- R9
              refine wpO_val rfl (x_cmp rfl rfl rfl rfl) ?_
              refine wpO_nil ?_
              refine wpF_seq ?_
              refine wpF_true rfl ?_
              refine wpF_skip ?_
              refine wpF_seq ?_
              refine wpF_block ?_   -- block 3
              refine wpF_seq ?_
              refine wpF_region rfl ?_   -- R10
              refine wpO_val rfl (x_indexAgg0 Tryz.underlying217 Tryz.sizeOf2 Tryz.isAgg2 rfl rfl (by decide) (by decide) rfl) ?_
              refine wpO_val rfl (x_assignI rfl) ?_
              refine wpO_nil ?_
              refine wpF_seq ?_
              refine wpF_region rfl ?_   -- R11
              refine wpO_val rfl (x_moveI rfl) ?_
              refine wpO_val rfl (x_shl _ rfl rfl (by decide) ps3.1) ?_
              refine wpO_val rfl (x_moveI rfl) ?_
              refine wpO_val rfl (x_or _ rfl rfl ps3.2.1) ?_
              refine wpO_val rfl (x_assignI rfl) ?_
              refine wpO_nil ?_
              refine wpF_seq ?_
              refine wpF_region rfl ?_   -- R12
              refine wpO_val rfl (x_moveI rfl) ?_
              refine wpO_val rfl (x_shl _ rfl rfl (by decide) ps3.2.2.1) ?_
              refine wpO_val rfl (x_moveI rfl) ?_
              refine wpO_val rfl (x_moveI rfl) ?_
              refine wpO_val rfl (x_quo _ rfl rfl (by omega) ps3.2.2.2.1) ?_
              refine wpO_val rfl (x_arithV (V3 / d) rfl rfl ps3.2.2.2.2.1) ?_
              refine wpO_val rfl (x_assignI rfl) ?_
              refine wpO_nil ?_
              refine wpF_region rfl ?_   -- R13
              refine wpO_val rfl (x_moveI rfl) ?_
              refine wpO_val rfl (x_moveI rfl) ?_
              refine wpO_val rfl (x_rem (V3 % d) rfl rfl (by omega) ps3.2.2.2.2.2) ?_
              refine wpO_val rfl (x_assignI rfl) ?_
              refine wpO_nil ?_
              refine wpF_region rfl ?_   -- R14
              refine wpO_val rfl (x_arith rfl rfl (fun _ => rfl) rfl) ?_
              refine wpO_val rfl (x_moveI rfl) ?_
              refine wpO_nil ?_
              refine wpLoop_s ?_
              refine wpF_seq ?_
              refine wpF_region rfl ?_   -- R9
              refine wpO_val rfl (x_cmp rfl rfl rfl rfl) ?_
              refine wpO_nil ?_
              refine wpF_seq ?_
              refine wpF_true rfl ?_
              refine wpF_skip ?_
              refine wpF_seq ?_
              refine wpF_block ?_   -- block 3
              refine wpF_seq ?_
              refine wpF_region rfl ?_   -- R10
              refine wpO_val rfl (x_indexAgg0 Tryz.underlying217 Tryz.sizeOf2 Tryz.isAgg2 rfl rfl (by decide) (by decide) rfl) ?_
              refine wpO_val rfl (x_assignI rfl) ?_
              refine wpO_nil ?_
              refine wpF_seq ?_
              refine wpF_region rfl ?_   -- R11
              refine wpO_val rfl (x_moveI rfl) ?_
              refine wpO_val rfl (x_shl _ rfl rfl (by decide) ps4.1) ?_
              refine wpO_val rfl (x_moveI rfl) ?_
              refine wpO_val rfl (x_or _ rfl rfl ps4.2.1) ?_
              refine wpO_val rfl (x_assignI rfl) ?_
              refine wpO_nil ?_
              refine wpF_seq ?_
              refine wpF_region rfl ?_   -- R12
              refine wpO_val rfl (x_moveI rfl) ?_
              refine wpO_val rfl (x_shl _ rfl rfl (by decide) ps4.2.2.1) ?_
              refine wpO_val rfl (x_moveI rfl) ?_
              refine wpO_val rfl (x_moveI rfl) ?_
              refine wpO_val rfl (x_quo _ rfl rfl (by omega) ps4.2.2.2.1) ?_
              refine wpO_val rfl (x_arithV (V4 / d) rfl rfl ps4.2.2.2.2.1) ?_
              refine wpO_val rfl (x_assignI rfl) ?_
              refine wpO_nil ?_
              refine wpF_region rfl ?_   -- R13
              refine wpO_val rfl (x_moveI rfl) ?_
              refine wpO_val rfl (x_moveI rfl) ?_
              refine wpO_val rfl (x_rem (V4 % d) rfl rfl (by omega) ps4.2.2.2.2.2) ?_
              refine wpO_val rfl (x_assignI rfl) ?_
              refine wpO_nil ?_
              refine wpF_region rfl ?_   -- R14
              refine wpO_val rfl (x_arith rfl rfl (fun _ => rfl) rfl) ?_
              refine wpO_val rfl (x_moveI rfl) ?_
              refine wpO_nil ?_
              refine wpLoop_0 ?_
              refine wpF_seq ?_
              refine wpF_region rfl ?_   -- R9
              refine wpO_val rfl (x_cmp rfl rfl rfl rfl) ?_
              refine wpO_nil ?_
              refine wpF_seq ?_
              refine wpF_false rfl ?_
              refine wpF_exit ?_   -- exit 2
              refine wpF_region rfl ?_   -- R7
              refine wpO_val rfl (x_moveI rfl) ?_
              refine wpO_val rfl (x_arith rfl rfl (fun _ => rfl) rfl) ?_
              refine wpO_val rfl (x_assignI rfl) ?_
              refine wpO_nil ?_
              refine wpLoop_s ?_
              refine wpF_seq ?_
              refine wpF_seq ?_
              refine wpF_region rfl ?_   -- R6
              refine wpO_val rfl (x_moveI rfl) ?_
              refine wpO_val rfl (x_cmp rfl rfl rfl rfl) ?_
              refine wpO_nil ?_
              refine wpF_true rfl ?_
              refine wpF_skip ?_
              refine wpF_seq ?_
              refine wpF_block ?_   -- block 1
              refine wpF_seq ?_
              refine wpF_drawC [0, 1, 2, 3, 4, 5, 6, 7, 8, 9] [] [0, 0, 0, 0, 0, 0, 0, 0, 0, 0] (fun _ _ => True) mixed (by kernel_rfl) rfl fun w hw => ?_   -- R8 DRAWS []
              have H := H.to hw
              refine wpDC_e rfl rfl rfl rfl (x_moveI rfl) ?_
              refine wpDC_e rfl rfl rfl rfl (x_indexArr Tryz.underlying215 Tryz.sizeOf2 rfl rfl (by decide) (by decide)) ?_
              refine wpDC_e rfl rfl rfl rfl (x_load0b Tryz.isAgg2 rfl (H.getF 0 rfl) rfl) ?_
              refine wpDC_e rfl rfl rfl rfl (x_shr (p1 / 8192) rfl rfl (by decide) (shr13 p1)) ?_
              refine wpDC_e rfl rfl rfl rfl (x_moveI rfl) ?_
              refine wpDC_e rfl rfl rfl rfl (x_indexArr Tryz.underlying215 Tryz.sizeOf2 rfl rfl (by decide) (by decide)) ?_
              refine wpDC_e rfl rfl rfl rfl (x_load0b Tryz.isAgg2 rfl (H.getF 0 rfl) rfl) ?_
              refine wpDC_e rfl rfl rfl rfl (x_and (p1 % 8192) rfl rfl (and13 p1)) ?_
              refine wpDC_e rfl rfl rfl rfl (x_buildArr Tryz.underlying217 Tryz.sizeOf2 Tryz.zeroValue217 rfl rfl (vs := [encI (p1 / 8192), encI (p1 % 8192)]) rfl rfl) ?_
              refine wpDC_e rfl rfl rfl rfl (x_moveI rfl) ?_
              refine wpDC_nil ?_
              refine wpF_block ?_   -- block 2
              refine wpF_unroll 2 ?_
              refine wpLoop_s ?_
              refine wpF_seq ?_
              refine wpF_region rfl ?_   -- R9
              refine wpO_val rfl (x_cmp rfl rfl rfl rfl) ?_
              refine wpO_nil ?_
              refine wpF_seq ?_
              refine wpF_true rfl ?_
              refine wpF_skip ?_
              refine wpF_seq ?_
              refine wpF_block ?_   -- block 3
              refine wpF_seq ?_
              refine wpF_region rfl ?_   -- R10
              refine wpO_val rfl (x_indexAgg0 Tryz.underlying217 Tryz.sizeOf2 Tryz.isAgg2 rfl rfl (by decide) (by decide) rfl) ?_
              refine wpO_val rfl (x_assignI rfl) ?_
              refine wpO_nil ?_
              refine wpF_seq ?_
              refine wpF_region rfl ?_   -- R11
              refine wpO_val rfl (x_moveI rfl) ?_
              refine wpO_val rfl (x_shl _ rfl rfl (by decide) ps5.1) ?_
              refine wpO_val rfl (x_moveI rfl) ?_
              refine wpO_val rfl (x_or _ rfl rfl ps5.2.1) ?_
              refine wpO_val rfl (x_assignI rfl) ?_
              refine wpO_nil ?_
              refine wpF_seq ?_
              refine wpF_region rfl ?_   -- R12
              refine wpO_val rfl (x_moveI rfl) ?_
              refine wpO_val rfl (x_shl _ rfl rfl (by decide) ps5.2.2.1) ?_
              refine wpO_val rfl (x_moveI rfl) ?_
              refine wpO_val rfl (x_moveI rfl) ?_
              refine wpO_val rfl (x_quo _ rfl rfl (by omega) ps5.2.2.2.1) ?_
              refine wpO_val rfl (x_arithV (V5 / d) rfl rfl ps5.2.2.2.2.1) ?_
              refine wpO_val rfl (x_assignI rfl) ?_
              refine wpO_nil ?_
              refine wpF_region rfl ?_   -- R13
              refine wpO_val rfl (x_moveI rfl) ?_
              refine wpO_val rfl (x_moveI rfl) ?_
              refine wpO_val rfl (x_rem (V5 % d) rfl rfl (by omega) ps5.2.2.2.2.2) ?_
              refine wpO_val rfl (x_assignI rfl) ?_
              refine wpO_nil ?_
              refine wpF_region rfl ?_   -- R14
              refine wpO_val rfl (x_arith rfl rfl (fun _ => rfl) rfl) ?_
              refine wpO_val rfl (x_moveI rfl) ?_
              refine wpO_nil ?_
              refine wpLoop_s ?_
              refine wpF_seq ?_
              refine wpF_region rfl ?_   -- R9
              refine wpO_val rfl (x_cmp rfl rfl rfl rfl) ?_
              refine wpO_nil ?_
              refine wpF_seq ?_
              refine wpF_true rfl ?_
              refine wpF_skip ?_
              refine wpF_seq ?_
              refine wpF_block ?_   -- block 3
              refine wpF_seq ?_
              refine wpF_region rfl ?_   -- R10
              refine wpO_val rfl (x_indexAgg0 Tryz.underlying217 Tryz.sizeOf2 Tryz.isAgg2 rfl rfl (by decide) (by decide) rfl) ?_
              refine wpO_val rfl (x_assignI rfl) ?_
              refine wpO_nil ?_
              refine wpF_seq ?_
              refine wpF_region rfl ?_   -- R11
              refine wpO_val rfl (x_moveI rfl) ?_
              refine wpO_val rfl (x_shl _ rfl rfl (by decide) ps6.1) ?_
              refine wpO_val rfl (x_moveI rfl) ?_
              refine wpO_val rfl (x_or _ rfl rfl ps6.2.1) ?_
              refine wpO_val rfl (x_assignI rfl) ?_
              refine wpO_nil ?_
              refine wpF_seq ?_
              refine wpF_region rfl ?_   -- R12
              refine wpO_val rfl (x_moveI rfl) ?_
              refine wpO_val rfl (x_shl _ rfl rfl (by decide) ps6.2.2.1) ?_
              refine wpO_val rfl (x_moveI rfl) ?_
              refine wpO_val rfl (x_moveI rfl) ?_
              refine wpO_val rfl (x_quo _ rfl rfl (by omega) ps6.2.2.2.1) ?_
              refine wpO_val rfl (x_arithV (V6 / d) rfl rfl ps6.2.2.2.2.1) ?_
              refine wpO_val rfl (x_assignI rfl) ?_
              refine wpO_nil ?_
              refine wpF_region rfl ?_   -- R13
              refine wpO_val rfl (x_moveI rfl) ?_
              refine wpO_val rfl (x_moveI rfl) ?_
              refine wpO_val rfl (x_rem (V6 % d) rfl rfl (by omega) ps6.2.2.2.2.2) ?_
              refine wpO_val rfl (x_assignI rfl) ?_
              refine wpO_nil ?_
              refine wpF_region rfl ?_   -- R14
              refine wpO_val rfl (x_arith rfl rfl (fun _ => rfl) rfl) ?_
              refine wpO_val rfl (x_moveI rfl) ?_
              refine wpO_nil ?_
              refine wpLoop_0 ?_
              refine wpF_seq ?_
              refine wpF_region rfl ?_   -- R9
              refine wpO_val rfl (x_cmp rfl rfl rfl rfl) ?_
              refine wpO_nil ?_
              refine wpF_seq ?_
              refine wpF_false rfl ?_
              refine wpF_exit ?_   -- exit 2
              refine wpF_region rfl ?_   -- R7
              refine wpO_val rfl (x_moveI rfl) ?_
              refine wpO_val rfl (x_arith rfl rfl (fun _ => rfl) rfl) ?_
              refine wpO_val rfl (x_assignI rfl) ?_
              refine wpO_nil ?_
              refine wpLoop_s ?_
              refine wpF_seq ?_
              refine wpF_seq ?_
              refine wpF_region rfl ?_   -- R6
              refine wpO_val rfl (x_moveI rfl) ?_
              refine wpO_val rfl (x_cmp rfl rfl rfl rfl) ?_
              refine wpO_nil ?_
              refine wpF_true rfl ?_
              refine wpF_skip ?_
              refine wpF_seq ?_
              refine wpF_block ?_   -- block 1
              refine wpF_seq ?_
              refine wpF_drawC [0, 1, 2, 3, 4, 5, 6, 7, 8, 9] [] [0, 0, 0, 0, 0, 0, 0, 0, 0, 0] (fun _ _ => True) mixed (by kernel_rfl) rfl fun w hw => ?_   -- R8 DRAWS []
              have H := H.to hw
              refine wpDC_e rfl rfl rfl rfl (x_moveI rfl) ?_
              refine wpDC_e rfl rfl rfl rfl (x_indexArr Tryz.underlying215 Tryz.sizeOf2 rfl rfl (by decide) (by decide)) ?_
              refine wpDC_e rfl rfl rfl rfl (x_load0b Tryz.isAgg2 rfl (H.getF 0 rfl) rfl) ?_
              refine wpDC_e rfl rfl rfl rfl (x_shr (p0 / 8192) rfl rfl (by decide) (shr13 p0)) ?_
              refine wpDC_e rfl rfl rfl rfl (x_moveI rfl) ?_
              refine wpDC_e rfl rfl rfl rfl (x_indexArr Tryz.underlying215 Tryz.sizeOf2 rfl rfl (by decide) (by decide)) ?_
              refine wpDC_e rfl rfl rfl rfl (x_load0b Tryz.isAgg2 rfl (H.getF 0 rfl) rfl) ?_
              refine wpDC_e rfl rfl rfl rfl (x_and (p0 % 8192) rfl rfl (and13 p0)) ?_
              refine wpDC_e rfl rfl rfl rfl (x_buildArr Tryz.underlying217 Tryz.sizeOf2 Tryz.zeroValue217 rfl rfl (vs := [encI (p0 / 8192), encI (p0 % 8192)]) rfl rfl) ?_
              refine wpDC_e rfl rfl rfl rfl (x_moveI rfl) ?_
              refine wpDC_nil ?_
              refine wpF_block ?_   -- block 2
              refine wpF_unroll 2 ?_
              refine wpLoop_s ?_
              refine wpF_seq ?_
              refine wpF_region rfl ?_   -- R9
              refine wpO_val rfl (x_cmp rfl rfl rfl rfl) ?_
              refine wpO_nil ?_
              refine wpF_seq ?_
              refine wpF_true rfl ?_
              refine wpF_skip ?_
              refine wpF_seq ?_
              refine wpF_block ?_   -- block 3
              refine wpF_seq ?_
              refine wpF_region rfl ?_   -- R10
              refine wpO_val rfl (x_indexAgg0 Tryz.underlying217 Tryz.sizeOf2 Tryz.isAgg2 rfl rfl (by decide) (by decide) rfl) ?_
              refine wpO_val rfl (x_assignI rfl) ?_
              refine wpO_nil ?_
              refine wpF_seq ?_
              refine wpF_region rfl ?_   -- R11
              refine wpO_val rfl (x_moveI rfl) ?_
              refine wpO_val rfl (x_shl _ rfl rfl (by decide) ps7.1) ?_
              refine wpO_val rfl (x_moveI rfl) ?_
              refine wpO_val rfl (x_or _ rfl rfl ps7.2.1) ?_
              refine wpO_val rfl (x_assignI rfl) ?_
              refine wpO_nil ?_
              refine wpF_seq ?_
              refine wpF_region rfl ?_   -- R12
              refine wpO_val rfl (x_moveI rfl) ?_
              refine wpO_val rfl (x_shl _ rfl rfl (by decide) ps7.2.2.1) ?_
              refine wpO_val rfl (x_moveI rfl) ?_
              refine wpO_val rfl (x_moveI rfl) ?_
              refine wpO_val rfl (x_quo _ rfl rfl (by omega) ps7.2.2.2.1) ?_
              refine wpO_val rfl (x_arithV (V7 / d) rfl rfl ps7.2.2.2.2.1) ?_
              refine wpO_val rfl (x_assignI rfl) ?_
              refine wpO_nil ?_
              refine wpF_region rfl ?_   -- R13
              refine wpO_val rfl (x_moveI rfl) ?_
              refine wpO_val rfl (x_moveI rfl) ?_
              refine wpO_val rfl (x_rem (V7 % d) rfl rfl (by omega) ps7.2.2.2.2.2) ?_
              refine wpO_val rfl (x_assignI rfl) ?_
              refine wpO_nil ?_
              refine wpF_region rfl ?_   -- R14
              refine wpO_val rfl (x_arith rfl rfl (fun _ => rfl) rfl) ?_
              refine wpO_val rfl (x_moveI rfl) ?_
              refine wpO_nil ?_
              refine wpLoop_s ?_
              refine wpF_seq ?_
              refine wpF_region rfl ?_   -- R9
              refine wpO_val rfl (x_cmp rfl rfl rfl rfl) ?_
              refine wpO_nil ?_
              refine wpF_seq ?_
              refine wpF_true rfl ?_
              refine wpF_skip ?_
              refine wpF_seq ?_
              refine wpF_block ?_   -- block 3
              refine wpF_seq ?_
              refine wpF_region rfl ?_   -- R10
              refine wpO_val rfl (x_indexAgg0 Tryz.underlying217 Tryz.sizeOf2 Tryz.isAgg2 rfl rfl (by decide) (by decide) rfl) ?_
              refine wpO_val rfl (x_assignI rfl) ?_
              refine wpO_nil ?_
              refine wpF_seq ?_
              refine wpF_region rfl ?_   -- R11
              refine wpO_val rfl (x_moveI rfl) ?_
              refine wpO_val rfl (x_shl _ rfl rfl (by decide) ps8.1) ?_
              refine wpO_val rfl (x_moveI rfl) ?_
              refine wpO_val rfl (x_or _ rfl rfl ps8.2.1) ?_
              refine wpO_val rfl (x_assignI rfl) ?_
              refine wpO_nil ?_
              refine wpF_seq ?_
              refine wpF_region rfl ?_   -- R12
              refine wpO_val rfl (x_moveI rfl) ?_
              refine wpO_val rfl (x_shl _ rfl rfl (by decide) ps8.2.2.1) ?_
              refine wpO_val rfl (x_moveI rfl) ?_
              refine wpO_val rfl (x_moveI rfl) ?_
              refine wpO_val rfl (x_quo _ rfl rfl (by omega) ps8.2.2.2.1) ?_
              refine wpO_val rfl (x_arithV (V8 / d) rfl rfl ps8.2.2.2.2.1) ?_
              refine wpO_val rfl (x_assignI rfl) ?_
              refine wpO_nil ?_
              refine wpF_region rfl ?_   -- R13
              refine wpO_val rfl (x_moveI rfl) ?_
              refine wpO_val rfl (x_moveI rfl) ?_
              refine wpO_val rfl (x_rem (V8 % d) rfl rfl (by omega) ps8.2.2.2.2.2) ?_
              refine wpO_val rfl (x_assignI rfl) ?_
              refine wpO_nil ?_
              refine wpF_region rfl ?_   -- R14
              refine wpO_val rfl (x_arith rfl rfl (fun _ => rfl) rfl) ?_
              refine wpO_val rfl (x_moveI rfl) ?_
              refine wpO_nil ?_
              refine wpLoop_0 ?_
              refine wpF_seq ?_
              refine wpF_region rfl ?_   -- R9
              refine wpO_val rfl (x_cmp rfl rfl rfl rfl) ?_
              refine wpO_nil ?_
              refine wpF_seq ?_
              refine wpF_false rfl ?_
              refine wpF_exit ?_   -- exit 2
              refine wpF_region rfl ?_   -- R7
              refine wpO_val rfl (x_moveI rfl) ?_
              refine wpO_val rfl (x_arith rfl rfl (fun _ => rfl) rfl) ?_
              refine wpO_val rfl (x_assignI rfl) ?_
              refine wpO_nil ?_
              refine wpLoop_0 ?_
              refine wpF_seq ?_
              refine wpF_seq ?_
              refine wpF_region rfl ?_   -- R6
              refine wpO_val rfl (x_moveI rfl) ?_
              refine wpO_val rfl (x_cmp rfl rfl rfl rfl) ?_
              refine wpO_nil ?_
              refine wpF_false rfl ?_
              refine wpF_exit ?_   -- exit 0
              refine wpF_seq ?_
              refine wpF_region rfl ?_   -- R15
              refine wpO_val rfl (x_moveI rfl) ?_
              refine wpO_val rfl (x_moveI rfl) ?_
              refine wpO_val rfl (x_assignI rfl) ?_
              refine wpO_val rfl (x_assignI rfl) ?_
              refine wpO_val rfl (x_assignI rfl) ?_
              refine wpO_nil ?_
              refine wpF_ret ?_
              repeat (with_reducible first | refine thenF_r ?_ | refine inBlockF_r ?_)
              refine end_ttt rfl rfl rfl rfl ?_   -- tmp:6 tmp:7 tmp:8
              exact ⟨congrArg (fun N => Value.tuple #[.int .i64 (N / d), .int .i64 (N % d), .int .i64 0]) hV8', (H.sel [] 1 rfl rfl).forget hle⟩
-- >> mpart_c
end Go.Proofs.YtfoginganpgmcaaGreat
