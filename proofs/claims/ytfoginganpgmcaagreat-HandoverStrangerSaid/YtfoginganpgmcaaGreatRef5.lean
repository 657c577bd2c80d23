/- The document's answers for money: May, Sum, Part. -/
import Derived.Test.YtfoginganpgmcaaGreatDocs
set_option linter.unusedSimpArgs false
set_option linter.unusedVariables false
namespace Go.Proofs.YtfoginganpgmcaaGreat
open Go Go.Tw
set_option maxRecDepth 100000

/-- A sum, as long as it may be. -/
def rsumFrom : Int → List Int → Int × Int
  | a, [] => (a, 0)
  | a, x :: r => if (inM x && inM (a + x)) = true then rsumFrom (a + x) r else (0, 7)
def rsum (l : List Int) : Int × Int := rsumFrom 0 l
theorem rsumFrom_split (a : Int) : ∀ (l : List Int) (k : Nat), (∀ b, rsumFrom a (l.take k) = (b, 0) → rsumFrom a l = rsumFrom b (l.drop k)) := by
  intro l
  induction l generalizing a with
  | nil => intro k b h; simp [rsumFrom] at h ⊢; rw [h]
  | cons x r ih =>
    intro k b h
    cases k with
    | zero => simp [rsumFrom] at h; subst h; simp
    | succ k =>
      simp only [List.take_succ_cons, rsumFrom, List.drop_succ_cons] at h ⊢
      split at h
      · rename_i h1; rw [if_pos h1]; exact ih _ k b h
      · simp at h
theorem half_step {a : Int} (ha : 0 ≤ a) (j : Nat) : a / 2 ^ j = 2 * (a / 2 ^ (j + 1)) + a / 2 ^ j % 2 := by
  have h : a / 2 ^ (j + 1) = a / 2 ^ j / 2 := by
    obtain ⟨x, rfl⟩ := Int.eq_ofNat_of_zero_le ha
    have e : ((2 : Int) ^ j) = ((2 ^ j : Nat) : Int) := by simp
    have e2 : ((2 : Int) ^ (j + 1)) = ((2 ^ (j + 1) : Nat) : Int) := by simp
    rw [e, e2, ← Int.natCast_ediv, ← Int.natCast_ediv, Nat.pow_succ, ← Nat.div_div_eq_div_mul]
    rfl
  omega
theorem wh_le {wh r A n d : Int} (h : wh * d + r = A * n) (hr : 0 ≤ r) (hA : 0 ≤ A) (hn : n ≤ d) (hd : 1 ≤ d) : wh ≤ A := by
  have h1 : A * n ≤ A * d := Int.mul_le_mul_of_nonneg_left hn hA
  exact Int.le_of_mul_le_mul_right (show wh * d ≤ A * d by omega) (by omega)
theorem div_bounds {a : Int} (ha : 0 ≤ a) (j : Nat) : 0 ≤ a / 2 ^ j ∧ a / 2 ^ j ≤ a := by
  have h1 : (0 : Int) < 2 ^ j := Int.pow_pos (by decide)
  exact ⟨Int.ediv_nonneg ha (by omega), Int.ediv_le_self _ ha⟩

-- << rMay_c
theorem rMay_c {c : Cx} {g : Heap} {w : World} {F : List Asn} (a : Int) (H : Holds c g w F) :
    Calls Tryz.prog 135 #[.int .i64 a] w (Ret fun v w' => v = .bool (inM a) ∧ Holds c g w' F) := by
  have H : Holds c g w ([] ++ F) := H
  -- tarmac/tarmacref05.May  (function 135; params ['2']; results tmp:2; ntmps 9)
  refine calls_of_wpF Tryz.func135 rfl Tryz.ntmps135 rfl ?_
  refine wpF_seq ?_
  refine wpF_region rfl ?_   -- R0
  refine wpO_val rfl (x_assignB rfl) ?_
  refine wpO_nil ?_
  refine wpF_seq ?_
  refine wpF_region rfl ?_   -- R1
  refine wpO_val rfl (x_moveI rfl) ?_
  refine wpO_val rfl (x_cmp rfl rfl rfl rfl) ?_
  refine wpO_val rfl (x_moveB rfl) ?_
  refine wpO_split 5 rfl (fun hb5 => ?_) (fun hb5 => ?_)
  ·
    refine wpO_val rfl (x_moveI rfl) ?_
    refine wpO_val rfl (x_cmp rfl rfl rfl rfl) ?_
    refine wpO_val rfl (x_pickB rfl rfl) ?_
    refine wpO_val rfl (x_assignB rfl) ?_
    refine wpO_nil ?_
    refine wpF_ret ?_
    repeat (with_reducible first | refine thenF_r ?_ | refine inBlockF_r ?_)
    refine end_t rfl rfl ?_   -- tmp:2
    exact ⟨bq (by unfold inM; rw [show decide (-1125899906842624 ≤ a) = true from hb5]; rfl), H⟩
  ·
    refine wpO_not rfl ?_
    refine wpO_not rfl ?_
    refine wpO_val rfl (x_pickB rfl rfl) ?_
    refine wpO_val rfl (x_assignB rfl) ?_
    refine wpO_nil ?_
    refine wpF_ret ?_
    repeat (with_reducible first | refine thenF_r ?_ | refine inBlockF_r ?_)
    refine end_t rfl rfl ?_   -- tmp:2
    exact ⟨bq (by unfold inM; rw [show decide (-1125899906842624 ≤ a) = false from hb5]; rfl), H⟩
-- >> rMay_c
-- << rSum_c
theorem rSum_c {c : Cx} {g : Heap} {w : World} {F : List Asn} {s : Sl} {xs : List Int} (hs : SlR g encI 1 s xs) (hl : xs.length ≤ 1000000) (H : Holds c g w F) :
    Calls Tryz.prog 164 #[s.v] w (Ret fun v w' => v = .tuple #[.int .i64 (rsum xs).1, .int .i64 (rsum xs).2] ∧ Holds c g w' F) := by
  have H : Holds c g w ([] ++ F) := H
  have hlen := hs.len
  -- tarmac/tarmacref05.Sum  (function 164; params ['60']; results tmp:2 tmp:3; ntmps 35)
  refine calls_of_wpF Tryz.func164 rfl Tryz.ntmps164 rfl ?_
  refine wpF_seq ?_
  refine wpF_region rfl ?_   -- R0
  refine wpO_val rfl (x_assignI rfl) ?_
  refine wpO_val rfl (x_assignI rfl) ?_
  refine wpO_nil ?_
  refine wpF_seq ?_
  refine wpF_region rfl ?_   -- R1
  refine wpO_val rfl (x_assignI rfl) ?_
  refine wpO_nil ?_
  refine wpF_seq ?_
  refine wpF_seq ?_
  refine wpF_region rfl ?_   -- R2
  refine wpO_val rfl (x_assignI rfl) ?_
  refine wpO_nil ?_
  refine wpF_block ?_   -- block 0
  refine wpF_loop (fun n f w => ∃ (k : Nat) (a : Int) (f0 : Fr), (k ≤ xs.length ∧ n = xs.length - k ∧ rsum xs = rsumFrom a (xs.drop k) ∧ (-1125899906842624 ≤ a ∧ a ≤ 1125899906842624)) ∧ Holds c g w ([] ++ F) ∧ f = updL f0 [(0, s.v), (4, .int .i64 a), (5, .int .i64 (k : Nat))]) xs.length ?_ ?_
  · exact ⟨0, 0, _, ⟨by omega, by omega, rfl, by omega⟩, H, updL_eta ⟨rfl, rfl, rfl, trivial⟩⟩
  · rintro n f w ⟨k, a, f0, ⟨hk, hn, hall, hab⟩, H, rfl⟩
    refine wpF_seq ?_
    refine wpF_seq ?_
    refine wpF_region rfl ?_   -- R3
    refine wpO_val rfl (x_moveI rfl) ?_
    refine wpO_val rfl (x_moveL rfl) ?_
    refine wpO_val rfl (x_lenSl Tryz.underlying60 rfl) ?_
    refine wpO_val rfl (x_cmp rfl rfl rfl rfl) ?_
    refine wpO_nil ?_
    refine wpF_cond _ rfl (fun hc9 => ?_) (fun hc9 => ?_)
    ·
      have hk' : k < xs.length := by rw [← hlen]; simpa using hc9
      rw [List.drop_eq_getElem_cons hk', rsumFrom] at hall
      refine wpF_skip ?_
      refine wpF_seq ?_
      refine wpF_block ?_   -- block 1
      refine wpF_seq ?_
      refine wpF_seq ?_
      refine wpF_region rfl ?_   -- R5
      refine wpO_val rfl (x_moveL rfl) ?_
      refine wpO_val rfl (x_moveI rfl) ?_
      refine wpO_val rfl (x_indexEl hs Tryz.underlying60 Tryz.sizeOf2 rfl rfl (by omega) (by omega)) ?_
      refine wpO_val rfl (x_loadEl elint64 hs H rfl (List.getElem?_eq_getElem hk')) ?_
      refine wpO_eff rfl (e_callF (vs := [.int .i64 xs[k]]) Tryz.call135 rfl ((rMay_c xs[k] H).mono (Ret.mono ?_)))
      rintro v16 w ⟨rfl, H'⟩
      replace H := H.re H' rfl
      refine wpO_val rfl (x_not rfl) ?_
      refine wpO_val rfl (x_moveB rfl) ?_
      refine wpO_split 18 rfl (fun hb18 => ?_) (fun hb18 => ?_)
      ·
        refine wpO_not rfl ?_
        refine wpO_not rfl ?_
        refine wpO_not rfl ?_
        refine wpO_not rfl ?_
        refine wpO_not rfl ?_
        refine wpO_not rfl ?_
        refine wpO_not rfl ?_
        refine wpO_not rfl ?_
        refine wpO_val rfl (x_pickB rfl rfl) ?_
        refine wpO_nil ?_
        refine wpF_true rfl ?_
        refine wpF_seq ?_
        refine wpF_region rfl ?_   -- R6
        refine wpO_val rfl (x_assignI rfl) ?_
        refine wpO_val rfl (x_assignI rfl) ?_
        refine wpO_nil ?_
        refine wpF_ret ?_
        repeat (with_reducible first | refine thenF_r ?_ | refine inBlockF_r ?_)
        refine end_tt rfl rfl rfl ?_   -- tmp:2 tmp:3
        have hx : inM xs[k] = false := by simpa using hb18
        rw [hx, Bool.false_and, if_neg (by decide)] at hall
        rw [hall]; exact ⟨rfl, H⟩
      ·
        have hx : inM xs[k] = true := by simpa using hb18
        have hxb := inM_iff.1 hx
        have hw : IntKind.i64.wrap (a + xs[k]) = a + xs[k] := w64 (by omega) (by omega)
        refine wpO_val rfl (x_moveI rfl) ?_
        refine wpO_val rfl (x_moveL rfl) ?_
        refine wpO_val rfl (x_moveI rfl) ?_
        refine wpO_val rfl (x_indexEl hs Tryz.underlying60 Tryz.sizeOf2 rfl rfl (by omega) (by omega)) ?_
        refine wpO_val rfl (x_loadEl elint64 hs H rfl (List.getElem?_eq_getElem hk')) ?_
        refine wpO_val rfl (x_arith rfl rfl (fun _ => rfl) rfl) ?_
        refine wpO_eff rfl (e_callF (vs := [.int .i64 (IntKind.i64.wrap (a + xs[k]))]) Tryz.call135 rfl ((rMay_c (IntKind.i64.wrap (a + xs[k])) H).mono (Ret.mono ?_)))
        rintro v25 w ⟨rfl, H'⟩
        replace H := H.re H' rfl
        refine wpO_val rfl (x_not rfl) ?_
        refine wpO_val rfl (x_pickB rfl rfl) ?_
        refine wpO_nil ?_
        refine wpF_cond _ rfl (fun hc27 => ?_) (fun hc27 => ?_)
        ·
          refine wpF_seq ?_
          refine wpF_region rfl ?_   -- R6
          refine wpO_val rfl (x_assignI rfl) ?_
          refine wpO_val rfl (x_assignI rfl) ?_
          refine wpO_nil ?_
          refine wpF_ret ?_
          repeat (with_reducible first | refine thenF_r ?_ | refine inBlockF_r ?_)
          refine end_tt rfl rfl rfl ?_   -- tmp:2 tmp:3
          have hy : inM (a + xs[k]) = false := by rw [← hw]; simpa using hc27
          rw [hy, Bool.and_false, if_neg (by decide)] at hall
          rw [hall]; exact ⟨rfl, H⟩
        ·
          have hy : inM (a + xs[k]) = true := by rw [← hw]; simpa using hc27
          rw [hx, hy, if_pos (by decide)] at hall
          refine wpF_skip ?_
          refine wpF_region rfl ?_   -- R7
          refine wpO_val rfl (x_moveI rfl) ?_
          refine wpO_val rfl (x_moveL rfl) ?_
          refine wpO_val rfl (x_moveI rfl) ?_
          refine wpO_val rfl (x_indexEl hs Tryz.underlying60 Tryz.sizeOf2 rfl rfl (by omega) (by omega)) ?_
          refine wpO_val rfl (x_loadEl elint64 hs H rfl (List.getElem?_eq_getElem hk')) ?_
          refine wpO_val rfl (x_arith rfl rfl (fun _ => rfl) rfl) ?_
          refine wpO_val rfl (x_assignI rfl) ?_
          refine wpO_nil ?_
          refine wpF_region rfl ?_   -- R4
          refine wpO_val rfl (x_moveI rfl) ?_
          refine wpO_val rfl (x_arith rfl rfl (fun _ => rfl) rfl) ?_
          refine wpO_val rfl (x_assignI rfl) ?_
          refine wpO_nil ?_
          exact ⟨xs.length - (k + 1), by omega, k + 1, a + xs[k], _, ⟨by omega, rfl, hall, inM_iff.1 hy⟩, H, updL_eta ⟨rfl, vi64 hw, vi64 (w64 (by omega) (by omega)), trivial⟩⟩
    ·
      have hkk : k = xs.length := by have : ¬ (k : Int) < s.len := (by simpa using hc9); omega
      rw [hkk, List.drop_length, rsumFrom] at hall
      refine wpF_exit ?_   -- exit 0
      refine wpF_seq ?_
      refine wpF_region rfl ?_   -- R8
      refine wpO_val rfl (x_moveI rfl) ?_
      refine wpO_val rfl (x_assignI rfl) ?_
      refine wpO_val rfl (x_assignI rfl) ?_
      refine wpO_nil ?_
      refine wpF_ret ?_
      repeat (with_reducible first | refine thenF_r ?_ | refine inBlockF_r ?_)
      refine end_tt rfl rfl rfl ?_   -- tmp:2 tmp:3
      rw [hall]; exact ⟨rfl, H⟩
-- >> rSum_c
-- << rPart_c
theorem rPart_c {c : Cx} {g : Heap} {w : World} {F : List Asn} (a n' d : Int) (ha : 0 ≤ a ∧ a ≤ 1125899906842624) (hn : 0 ≤ n' ∧ n' ≤ d) (hd : 1 ≤ d ∧ d ≤ 1099511627776) (H : Holds c g w F) :
    Calls Tryz.prog 136 #[.int .i64 a, .int .i64 n', .int .i64 d] w (Ret fun v w' => v = .tuple #[.int .i64 (a * n' / d), .int .i64 (a * n' % d), .int .i64 0] ∧ Holds c g w' F) := by
  have H : Holds c g w ([] ++ F) := H
  -- tarmac/tarmacref05.Part  (function 136; params ['2', '2', '2']; results tmp:6 tmp:7 tmp:8; ntmps 62)
  refine calls_of_wpF Tryz.func136 rfl Tryz.ntmps136 rfl ?_
  refine wpF_seq ?_
  refine wpF_region rfl ?_   -- R0
  refine wpO_val rfl (x_assignI rfl) ?_
  refine wpO_val rfl (x_assignI rfl) ?_
  refine wpO_val rfl (x_assignI rfl) ?_
  refine wpO_nil ?_
  refine wpF_seq ?_
  refine wpF_seq ?_
  refine wpF_region rfl ?_   -- R1
  refine wpO_val rfl (x_moveI rfl) ?_
  refine wpO_val rfl (x_cmp rfl rfl rfl rfl) ?_
  refine wpO_val rfl (x_moveB rfl) ?_
  refine wpO_split 14 rfl (fun hb14 => ?_) (fun hb14 => ?_)
  ·
    refine wpO_not rfl ?_
    refine wpO_not rfl ?_
    refine wpO_not rfl ?_
    refine wpO_val rfl (x_pickB rfl rfl) ?_
    refine wpO_val rfl (x_moveB rfl) ?_
    refine wpO_not rfl ?_
    refine wpO_not rfl ?_
    refine wpO_val rfl (x_pickB rfl rfl) ?_
    refine wpO_val rfl (x_moveB rfl) ?_
    refine wpO_not rfl ?_
    refine wpO_not rfl ?_
    refine wpO_val rfl (x_pickB rfl rfl) ?_
    refine wpO_val rfl (x_moveB rfl) ?_
    refine wpO_not rfl ?_
    refine wpO_not rfl ?_
    refine wpO_not rfl ?_
    refine wpO_val rfl (x_pickB rfl rfl) ?_
    refine wpO_val rfl (x_moveB rfl) ?_
    refine wpO_not rfl ?_
    refine wpO_not rfl ?_
    refine wpO_val rfl (x_pickB rfl rfl) ?_
    refine wpO_nil ?_
    refine wpF_true rfl ?_
    refine wpF_seq ?_
    refine wpF_region rfl ?_   -- R2
    refine wpO_val rfl (x_assignI rfl) ?_
    refine wpO_val rfl (x_assignI rfl) ?_
    refine wpO_val rfl (x_assignI rfl) ?_
    refine wpO_nil ?_
    refine wpF_ret ?_
    repeat (with_reducible first | refine thenF_r ?_ | refine inBlockF_r ?_)
    refine end_ttt rfl rfl rfl rfl ?_   -- tmp:6 tmp:7 tmp:8
    simp at hb14; omega
  ·
    refine wpO_val rfl (x_moveI rfl) ?_
    refine wpO_eff rfl (e_callF (vs := [.int .i64 a]) Tryz.call135 rfl ((rMay_c a H).mono (Ret.mono ?_)))
    rintro v16 w ⟨rfl, H'⟩
    replace H := H.re H' rfl
    refine wpO_val rfl (x_not rfl) ?_
    refine wpO_val rfl (x_pickB rfl rfl) ?_
    refine wpO_val rfl (x_moveB rfl) ?_
    refine wpO_split 19 rfl (fun hb19 => ?_) (fun hb19 => ?_)
    ·
      refine wpO_not rfl ?_
      refine wpO_not rfl ?_
      refine wpO_val rfl (x_pickB rfl rfl) ?_
      refine wpO_val rfl (x_moveB rfl) ?_
      refine wpO_not rfl ?_
      refine wpO_not rfl ?_
      refine wpO_val rfl (x_pickB rfl rfl) ?_
      refine wpO_val rfl (x_moveB rfl) ?_
      refine wpO_not rfl ?_
      refine wpO_not rfl ?_
      refine wpO_not rfl ?_
      refine wpO_val rfl (x_pickB rfl rfl) ?_
      refine wpO_val rfl (x_moveB rfl) ?_
      refine wpO_not rfl ?_
      refine wpO_not rfl ?_
      refine wpO_val rfl (x_pickB rfl rfl) ?_
      refine wpO_nil ?_
      refine wpF_true rfl ?_
      refine wpF_seq ?_
      refine wpF_region rfl ?_   -- R2
      refine wpO_val rfl (x_assignI rfl) ?_
      refine wpO_val rfl (x_assignI rfl) ?_
      refine wpO_val rfl (x_assignI rfl) ?_
      refine wpO_nil ?_
      refine wpF_ret ?_
      repeat (with_reducible first | refine thenF_r ?_ | refine inBlockF_r ?_)
      refine end_ttt rfl rfl rfl rfl ?_   -- tmp:6 tmp:7 tmp:8
      rw [inM_iff.2 ⟨by omega, ha.2⟩] at hb19; simp at hb19
    ·
      refine wpO_val rfl (x_moveI rfl) ?_
      refine wpO_val rfl (x_cmp rfl rfl rfl rfl) ?_
      refine wpO_val rfl (x_pickB rfl rfl) ?_
      refine wpO_val rfl (x_moveB rfl) ?_
      refine wpO_split 23 rfl (fun hb23 => ?_) (fun hb23 => ?_)
      ·
        refine wpO_not rfl ?_
        refine wpO_not rfl ?_
        refine wpO_val rfl (x_pickB rfl rfl) ?_
        refine wpO_val rfl (x_moveB rfl) ?_
        refine wpO_not rfl ?_
        refine wpO_not rfl ?_
        refine wpO_not rfl ?_
        refine wpO_val rfl (x_pickB rfl rfl) ?_
        refine wpO_val rfl (x_moveB rfl) ?_
        refine wpO_not rfl ?_
        refine wpO_not rfl ?_
        refine wpO_val rfl (x_pickB rfl rfl) ?_
        refine wpO_nil ?_
        refine wpF_true rfl ?_
        refine wpF_seq ?_
        refine wpF_region rfl ?_   -- R2
        refine wpO_val rfl (x_assignI rfl) ?_
        refine wpO_val rfl (x_assignI rfl) ?_
        refine wpO_val rfl (x_assignI rfl) ?_
        refine wpO_nil ?_
        refine wpF_ret ?_
        repeat (with_reducible first | refine thenF_r ?_ | refine inBlockF_r ?_)
        refine end_ttt rfl rfl rfl rfl ?_   -- tmp:6 tmp:7 tmp:8
        simp at hb23; omega
      ·
        refine wpO_val rfl (x_moveI rfl) ?_
        refine wpO_val rfl (x_cmp rfl rfl rfl rfl) ?_
        refine wpO_val rfl (x_pickB rfl rfl) ?_
        refine wpO_val rfl (x_moveB rfl) ?_
        refine wpO_split 27 rfl (fun hb27 => ?_) (fun hb27 => ?_)
        ·
          refine wpO_not rfl ?_
          refine wpO_not rfl ?_
          refine wpO_not rfl ?_
          refine wpO_val rfl (x_pickB rfl rfl) ?_
          refine wpO_val rfl (x_moveB rfl) ?_
          refine wpO_not rfl ?_
          refine wpO_not rfl ?_
          refine wpO_val rfl (x_pickB rfl rfl) ?_
          refine wpO_nil ?_
          refine wpF_true rfl ?_
          refine wpF_seq ?_
          refine wpF_region rfl ?_   -- R2
          refine wpO_val rfl (x_assignI rfl) ?_
          refine wpO_val rfl (x_assignI rfl) ?_
          refine wpO_val rfl (x_assignI rfl) ?_
          refine wpO_nil ?_
          refine wpF_ret ?_
          repeat (with_reducible first | refine thenF_r ?_ | refine inBlockF_r ?_)
          refine end_ttt rfl rfl rfl rfl ?_   -- tmp:6 tmp:7 tmp:8
          simp at hb27; omega
        ·
          refine wpO_val rfl (x_moveI rfl) ?_
          refine wpO_val rfl (x_moveI rfl) ?_
          refine wpO_val rfl (x_cmp rfl rfl rfl rfl) ?_
          refine wpO_val rfl (x_pickB rfl rfl) ?_
          refine wpO_val rfl (x_moveB rfl) ?_
          refine wpO_split 32 rfl (fun hb32 => ?_) (fun hb32 => ?_)
          ·
            refine wpO_not rfl ?_
            refine wpO_not rfl ?_
            refine wpO_val rfl (x_pickB rfl rfl) ?_
            refine wpO_nil ?_
            refine wpF_true rfl ?_
            refine wpF_seq ?_
            refine wpF_region rfl ?_   -- R2
            refine wpO_val rfl (x_assignI rfl) ?_
            refine wpO_val rfl (x_assignI rfl) ?_
            refine wpO_val rfl (x_assignI rfl) ?_
            refine wpO_nil ?_
            refine wpF_ret ?_
            repeat (with_reducible first | refine thenF_r ?_ | refine inBlockF_r ?_)
            refine end_ttt rfl rfl rfl rfl ?_   -- tmp:6 tmp:7 tmp:8
            simp at hb32; omega
          ·
            refine wpO_val rfl (x_moveI rfl) ?_
            refine wpO_val rfl (x_cmp rfl rfl rfl rfl) ?_
            refine wpO_val rfl (x_pickB rfl rfl) ?_
            refine wpO_nil ?_
            refine wpF_cond _ rfl (fun hc35 => ?_) (fun hc35 => ?_)
            ·
              refine wpF_seq ?_
              refine wpF_region rfl ?_   -- R2
              refine wpO_val rfl (x_assignI rfl) ?_
              refine wpO_val rfl (x_assignI rfl) ?_
              refine wpO_val rfl (x_assignI rfl) ?_
              refine wpO_nil ?_
              refine wpF_ret ?_
              repeat (with_reducible first | refine thenF_r ?_ | refine inBlockF_r ?_)
              refine end_ttt rfl rfl rfl rfl ?_   -- tmp:6 tmp:7 tmp:8
              simp at hc35; omega
            ·
              refine wpF_skip ?_
              refine wpF_seq ?_
              refine wpF_region rfl ?_   -- R3
              refine wpO_val rfl (x_assignI rfl) ?_
              refine wpO_val rfl (x_assignI rfl) ?_
              refine wpO_nil ?_
              refine wpF_seq ?_
              refine wpF_seq ?_
              refine wpF_region rfl ?_   -- R4
              refine wpO_val rfl (x_assignI rfl) ?_
              refine wpO_nil ?_
              refine wpF_block ?_   -- block 0
              refine wpF_loop (fun n f w => ∃ (j : Nat) (wh r : Int) (f0 : Fr), (n = j ∧ wh * d + r = (a / 2 ^ j) * n' ∧ (0 ≤ r ∧ r < d) ∧ 0 ≤ wh ∧ j ≤ 51) ∧ Holds c g w ([] ++ F) ∧ f = updL f0 [(0, .int .i64 a), (1, .int .i64 n'), (2, .int .i64 d), (9, .int .i64 wh), (10, .int .i64 r), (11, .int .i64 ((j : Int) - 1))]) 51 ?_ ?_
              · exact ⟨51, 0, 0, _, ⟨rfl, by rw [Int.ediv_eq_zero_of_lt ha.1 (by omega)]; omega, by omega, by omega, by omega⟩, H, updL_eta ⟨rfl, rfl, rfl, rfl, rfl, rfl, trivial⟩⟩
              · rintro n f w ⟨j, wh, r, f0, ⟨rfl, hq, hr, hwh, hj⟩, H, rfl⟩
                refine wpF_seq ?_
                refine wpF_seq ?_
                refine wpF_region rfl ?_   -- R5
                refine wpO_val rfl (x_moveI rfl) ?_
                refine wpO_val rfl (x_cmp rfl rfl rfl rfl) ?_
                refine wpO_nil ?_
                refine wpF_cond _ rfl (fun hc37 => ?_) (fun hc37 => ?_)
                ·
                  obtain ⟨j, rfl⟩ : ∃ j', n = j' + 1 := ⟨n - 1, by have : (0 : Int) ≤ (n : Int) - 1 := (by simpa using hc37); omega⟩
                  have hA := div_bounds ha.1 j
                  have hA1 := div_bounds ha.1 (j + 1)
                  have hst := half_step ha.1 j
                  have hwA := wh_le hq hr.1 hA1.1 hn.2 hd.1
                  have hww : IntKind.i64.wrap (wh * 2) = 2 * wh := by rw [w64 (by omega) (by omega)]; omega
                  have hwr0 : IntKind.i64.wrap (r * 2) = 2 * r := by rw [w64 (by omega) (by omega)]; omega
                  refine wpF_skip ?_
                  refine wpF_seq ?_
                  refine wpF_block ?_   -- block 1
                  refine wpF_seq ?_
                  refine wpF_region rfl ?_   -- R7
                  refine wpO_val rfl (x_moveI rfl) ?_
                  refine wpO_val rfl (x_arith rfl rfl (fun _ => rfl) rfl) ?_
                  refine wpO_val rfl (x_assignI rfl) ?_
                  refine wpO_nil ?_
                  refine wpF_seq ?_
                  refine wpF_region rfl ?_   -- R8
                  refine wpO_val rfl (x_moveI rfl) ?_
                  refine wpO_val rfl (x_arith rfl rfl (fun _ => rfl) rfl) ?_
                  refine wpO_val rfl (x_assignI rfl) ?_
                  refine wpO_nil ?_
                  refine wpF_seq ?_
                  refine wpF_seq ?_
                  refine wpF_region rfl ?_   -- R9
                  refine wpO_val rfl (x_moveI rfl) ?_
                  refine wpO_val rfl (x_moveI rfl) ?_
                  refine wpO_val rfl (x_shr (a / 2 ^ j) rfl rfl (by omega) (by rw [show min (((j + 1 : Nat) : Int) - 1).toNat IntKind.i64.bits = j from by simp [IntKind.bits]; omega]; exact Int.fdiv_eq_ediv_of_nonneg _ (Int.pow_nonneg (by decide)))) ?_
                  refine wpO_val rfl (x_and (a / 2 ^ j % 2) rfl rfl (and_mask (m := 1) (by decide))) ?_
                  refine wpO_val rfl (x_cmp rfl rfl rfl rfl) ?_
                  refine wpO_nil ?_
                  refine wpF_cond _ rfl (fun hc48 => ?_) (fun hc48 => ?_)
                  ·
                    have hbit : a / 2 ^ j % 2 = 1 := by simpa using hc48
                    have heq : 2 * wh * d + (2 * r + n') = (a / 2 ^ j) * n' := by rw [hst, hbit, Int.add_mul, Int.mul_assoc, Int.mul_assoc, ← hq]; omega
                    have hwr : IntKind.i64.wrap (IntKind.i64.wrap (r * 2) + n') = 2 * r + n' := by rw [hwr0]; exact w64 (by omega) (by omega)
                    refine wpF_region rfl ?_   -- R10
                    refine wpO_val rfl (x_moveI rfl) ?_
                    refine wpO_val rfl (x_moveI rfl) ?_
                    refine wpO_val rfl (x_arith rfl rfl (fun _ => rfl) rfl) ?_
                    refine wpO_val rfl (x_assignI rfl) ?_
                    refine wpO_nil ?_
                    refine wpF_block ?_   -- block 2
                    refine wpF_loop (fun n f w => ∃ (wh r : Int) (f0 : Fr), (n = r.toNat ∧ wh * d + r = (a / 2 ^ j) * n' ∧ (0 ≤ r ∧ r < 3 * d) ∧ 0 ≤ wh) ∧ Holds c g w ([] ++ F) ∧ f = updL f0 [(0, .int .i64 a), (1, .int .i64 n'), (2, .int .i64 d), (9, .int .i64 wh), (10, .int .i64 r), (11, .int .i64 (((j + 1 : Nat) : Int) - 1))]) (2 * r + n').toNat ?_ ?_
                    · exact ⟨2 * wh, 2 * r + n', _, ⟨rfl, heq, by omega, by omega⟩, H, updL_eta ⟨rfl, rfl, rfl, vi64 hww, vi64 hwr, rfl, trivial⟩⟩
                    · rintro n f w ⟨wh, r, f0, ⟨rfl, hq, hr, hwh⟩, H, rfl⟩
                      have hwA := wh_le hq hr.1 hA.1 hn.2 hd.1
                      refine wpF_seq ?_
                      refine wpF_seq ?_
                      refine wpF_region rfl ?_   -- R11
                      refine wpO_val rfl (x_moveI rfl) ?_
                      refine wpO_val rfl (x_moveI rfl) ?_
                      refine wpO_val rfl (x_cmp rfl rfl rfl rfl) ?_
                      refine wpO_nil ?_
                      refine wpF_cond _ rfl (fun hc54 => ?_) (fun hc54 => ?_)
                      ·
                        have hrd : d ≤ r := by simpa using hc54
                        refine wpF_skip ?_
                        refine wpF_block ?_   -- block 3
                        refine wpF_seq ?_
                        refine wpF_region rfl ?_   -- R12
                        refine wpO_val rfl (x_moveI rfl) ?_
                        refine wpO_val rfl (x_moveI rfl) ?_
                        refine wpO_val rfl (x_arith rfl rfl (fun _ => rfl) rfl) ?_
                        refine wpO_val rfl (x_assignI rfl) ?_
                        refine wpO_nil ?_
                        refine wpF_region rfl ?_   -- R13
                        refine wpO_val rfl (x_moveI rfl) ?_
                        refine wpO_val rfl (x_arith rfl rfl (fun _ => rfl) rfl) ?_
                        refine wpO_val rfl (x_assignI rfl) ?_
                        refine wpO_nil ?_
                        exact ⟨(r - d).toNat, by omega, wh + 1, r - d, _, ⟨rfl, by rw [Int.add_mul]; omega, by omega, by omega⟩, H, updL_eta ⟨rfl, rfl, rfl, vi64 (w64 (by omega) (by omega)), vi64 (w64 (by omega) (by omega)), rfl, trivial⟩⟩
                      ·
                        have hrd : r < d := by simpa using hc54
                        refine wpF_exit ?_   -- exit 2
                        refine wpF_region rfl ?_   -- R6
                        refine wpO_val rfl (x_moveI rfl) ?_
                        refine wpO_val rfl (x_arith rfl rfl (fun _ => rfl) rfl) ?_
                        refine wpO_val rfl (x_assignI rfl) ?_
                        refine wpO_nil ?_
                        exact ⟨j, by omega, j, wh, r, _, ⟨rfl, hq, ⟨hr.1, hrd⟩, hwh, by omega⟩, H, updL_eta ⟨rfl, rfl, rfl, rfl, rfl, vi64 (by rw [w64 (by omega) (by omega)]; omega), trivial⟩⟩
                  ·
                    have hbit : a / 2 ^ j % 2 = 0 := by have : ¬ a / 2 ^ j % 2 = 1 := (by simpa using hc48); omega
                    have heq : 2 * wh * d + 2 * r = (a / 2 ^ j) * n' := by rw [hst, hbit, Int.add_mul, Int.mul_assoc, Int.mul_assoc, ← hq]; omega
                    have hwr := hwr0
                    refine wpF_skip ?_
                    refine wpF_block ?_   -- block 2
                    refine wpF_loop (fun n f w => ∃ (wh r : Int) (f0 : Fr), (n = r.toNat ∧ wh * d + r = (a / 2 ^ j) * n' ∧ (0 ≤ r ∧ r < 3 * d) ∧ 0 ≤ wh) ∧ Holds c g w ([] ++ F) ∧ f = updL f0 [(0, .int .i64 a), (1, .int .i64 n'), (2, .int .i64 d), (9, .int .i64 wh), (10, .int .i64 r), (11, .int .i64 (((j + 1 : Nat) : Int) - 1))]) (2 * r).toNat ?_ ?_
                    · exact ⟨2 * wh, 2 * r, _, ⟨rfl, heq, by omega, by omega⟩, H, updL_eta ⟨rfl, rfl, rfl, vi64 hww, vi64 hwr, rfl, trivial⟩⟩
                    · rintro n f w ⟨wh, r, f0, ⟨rfl, hq, hr, hwh⟩, H, rfl⟩
                      have hwA := wh_le hq hr.1 hA.1 hn.2 hd.1
                      refine wpF_seq ?_
                      refine wpF_seq ?_
                      refine wpF_region rfl ?_   -- R11
                      refine wpO_val rfl (x_moveI rfl) ?_
                      refine wpO_val rfl (x_moveI rfl) ?_
                      refine wpO_val rfl (x_cmp rfl rfl rfl rfl) ?_
                      refine wpO_nil ?_
                      refine wpF_cond _ rfl (fun hc54 => ?_) (fun hc54 => ?_)
                      ·
                        have hrd : d ≤ r := by simpa using hc54
                        refine wpF_skip ?_
                        refine wpF_block ?_   -- block 3
                        refine wpF_seq ?_
                        refine wpF_region rfl ?_   -- R12
                        refine wpO_val rfl (x_moveI rfl) ?_
                        refine wpO_val rfl (x_moveI rfl) ?_
                        refine wpO_val rfl (x_arith rfl rfl (fun _ => rfl) rfl) ?_
                        refine wpO_val rfl (x_assignI rfl) ?_
                        refine wpO_nil ?_
                        refine wpF_region rfl ?_   -- R13
                        refine wpO_val rfl (x_moveI rfl) ?_
                        refine wpO_val rfl (x_arith rfl rfl (fun _ => rfl) rfl) ?_
                        refine wpO_val rfl (x_assignI rfl) ?_
                        refine wpO_nil ?_
                        exact ⟨(r - d).toNat, by omega, wh + 1, r - d, _, ⟨rfl, by rw [Int.add_mul]; omega, by omega, by omega⟩, H, updL_eta ⟨rfl, rfl, rfl, vi64 (w64 (by omega) (by omega)), vi64 (w64 (by omega) (by omega)), rfl, trivial⟩⟩
                      ·
                        have hrd : r < d := by simpa using hc54
                        refine wpF_exit ?_   -- exit 2
                        refine wpF_region rfl ?_   -- R6
                        refine wpO_val rfl (x_moveI rfl) ?_
                        refine wpO_val rfl (x_arith rfl rfl (fun _ => rfl) rfl) ?_
                        refine wpO_val rfl (x_assignI rfl) ?_
                        refine wpO_nil ?_
                        exact ⟨j, by omega, j, wh, r, _, ⟨rfl, hq, ⟨hr.1, hrd⟩, hwh, by omega⟩, H, updL_eta ⟨rfl, rfl, rfl, rfl, rfl, vi64 (by rw [w64 (by omega) (by omega)]; omega), trivial⟩⟩
                ·
                  have hn0 : n = 0 := by have : ¬ (0 : Int) ≤ (n : Int) - 1 := (by simpa using hc37); omega
                  subst hn0
                  rw [Int.pow_zero, Int.ediv_one] at hq
                  have h1 : a * n' / d = wh := by rw [← hq, Int.add_comm, Int.add_mul_ediv_right _ _ (by omega), Int.ediv_eq_zero_of_lt hr.1 hr.2]; omega
                  have h2 : a * n' % d = r := by rw [← hq, Int.add_comm, Int.add_mul_emod_self_right, Int.emod_eq_of_lt hr.1 hr.2]
                  rw [h1, h2]
                  refine wpF_exit ?_   -- exit 0
                  refine wpF_seq ?_
                  refine wpF_region rfl ?_   -- R14
                  refine wpO_val rfl (x_moveI rfl) ?_
                  refine wpO_val rfl (x_moveI rfl) ?_
                  refine wpO_val rfl (x_assignI rfl) ?_
                  refine wpO_val rfl (x_assignI rfl) ?_
                  refine wpO_val rfl (x_assignI rfl) ?_
                  refine wpO_nil ?_
                  refine wpF_ret ?_
                  repeat (with_reducible first | refine thenF_r ?_ | refine inBlockF_r ?_)
                  refine end_ttt rfl rfl rfl rfl ?_   -- tmp:6 tmp:7 tmp:8
                  exact ⟨rfl, H⟩
-- >> rPart_c
end Go.Proofs.YtfoginganpgmcaaGreat
