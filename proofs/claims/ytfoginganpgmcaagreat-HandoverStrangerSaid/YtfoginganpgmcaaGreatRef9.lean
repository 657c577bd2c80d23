/- The document's answers for tickets. -/
import Derived.Test.YtfoginganpgmcaaGreatRef6
import Derived.Test.YtfoginganpgmcaaGreatMake
import Derived.Test.YtfoginganpgmcaaGreatCoreG
import Derived.Test.YtfoginganpgmcaaGreatHear
set_option linter.unusedSimpArgs false
set_option linter.unusedVariables false
namespace Go.Proofs.YtfoginganpgmcaaGreat
open Go Go.Tw
set_option maxRecDepth 100000

def rbase (c : UInt8) : Bool := decide ((c.toNat : Int) ≥ 65) && decide ((c.toNat : Int) ≤ 90)
def rtextOk (also : List UInt8) (c : UInt8) : Bool := rbase c || also.any fun d => (c.toNat : Int) == (d.toNat : Int)
def rtext (xs also : List UInt8) : Bool := xs.all (rtextOk also)
def ramount (a : Int) : Bool := decide (a ≥ 0) && inM a
theorem str_size (xs : List UInt8) : ((⟨xs.toArray⟩ : ByteArray).size) = xs.length := by simp [ByteArray.size]

-- << rText_c
theorem rText_c {c : Cx} {g : Heap} {w : World} {F : List Asn} (xs also : List UInt8) (hl : xs.length ≤ 1000000) (ha : also.length ≤ 1000000) (H : Holds c g w F) :
    Calls Tryz.prog 132 #[strV xs, strV also] w (Ret fun v w' => v = .bool (rtext xs also) ∧ Holds c g w' F) := by
  have H : Holds c g w ([] ++ F) := H
  have hs1 := str_size xs
  have hs2 := str_size also
  -- tarmac/tarmacref09.text  (function 132; params ['9', '9']; results tmp:4; ntmps 42)
  refine calls_of_wpF Tryz.func132 rfl Tryz.ntmps132 rfl ?_
  refine wpF_seq ?_
  refine wpF_region rfl ?_   -- R0
  refine wpO_val rfl (x_assignB rfl) ?_
  refine wpO_nil ?_
  refine wpF_seq ?_
  refine wpF_seq ?_
  refine wpF_region rfl ?_   -- R1
  refine wpO_val rfl (x_assignI rfl) ?_
  refine wpO_nil ?_
  refine wpF_block ?_   -- block 0
  refine wpF_loop (fun n f w => ∃ (k : Nat) (f0 : Fr), (k ≤ xs.length ∧ n = xs.length - k ∧ (xs.take k).all (rtextOk also) = true) ∧ Holds c g w ([] ++ F) ∧ f = updL f0 [(0, strV xs), (1, strV also), (5, .int .i64 (k : Nat))]) xs.length ?_ ?_
  · exact ⟨0, _, ⟨by omega, by omega, rfl⟩, H, updL_eta ⟨rfl, rfl, rfl, trivial⟩⟩
  · rintro n f w ⟨k, f0, ⟨hk, hn, hall⟩, H, rfl⟩
    refine wpF_seq ?_
    refine wpF_seq ?_
    refine wpF_region rfl ?_   -- R2
    refine wpO_val rfl (x_moveI rfl) ?_
    refine wpO_val rfl (x_moveS rfl) ?_
    refine wpO_val rfl (x_lenStr Tryz.underlying9 rfl) ?_
    refine wpO_val rfl (x_cmp rfl rfl rfl rfl) ?_
    refine wpO_nil ?_
    refine wpF_cond _ rfl (fun hc11 => ?_) (fun hc11 => ?_)
    ·
      have hk' : k < xs.length := by rw [← hs1]; simpa using hc11
      refine wpF_skip ?_
      refine wpF_seq ?_
      refine wpF_block ?_   -- block 1
      refine wpF_seq ?_
      refine wpF_cut (fun f w => ∃ f0, Holds c g w ([] ++ F) ∧ f = updL f0 [(0, strV xs), (1, strV also), (5, .int .i64 (k : Nat)), (6, .bool (rbase xs[k]))]) ?_ ?_   -- join R4
      ·
        refine wpF_region rfl ?_   -- R4
        refine wpO_val rfl (x_moveS rfl) ?_
        refine wpO_val rfl (x_moveI rfl) ?_
        refine wpO_val rfl (x_indexStr Tryz.underlying9 rfl rfl (by omega) (strAt hk')) ?_
        refine wpO_val rfl (x_cmp rfl rfl rfl rfl) ?_
        refine wpO_val rfl (x_moveB rfl) ?_
        refine wpO_split 18 rfl (fun hb18 => ?_) (fun hb18 => ?_)
        ·
          refine wpO_val rfl (x_moveS rfl) ?_
          refine wpO_val rfl (x_moveI rfl) ?_
          refine wpO_val rfl (x_indexStr Tryz.underlying9 rfl rfl (by omega) (strAt hk')) ?_
          refine wpO_val rfl (x_cmp rfl rfl rfl rfl) ?_
          refine wpO_val rfl (x_pickB rfl rfl) ?_
          refine wpO_val rfl (x_assignB rfl) ?_
          refine wpO_nil ?_
          exact ⟨_, H, updL_eta ⟨rfl, rfl, rfl, bq (by unfold rbase; rw [hb18]; rfl), trivial⟩⟩
        ·
          refine wpO_not rfl ?_
          refine wpO_not rfl ?_
          refine wpO_not rfl ?_
          refine wpO_not rfl ?_
          refine wpO_val rfl (x_pickB rfl rfl) ?_
          refine wpO_val rfl (x_assignB rfl) ?_
          refine wpO_nil ?_
          exact ⟨_, H, updL_eta ⟨rfl, rfl, rfl, bq (by unfold rbase; rw [hb18]; rfl), trivial⟩⟩
      · rintro f w ⟨f0, H, rfl⟩
        refine wpF_seq ?_
        refine wpF_seq ?_
        refine wpF_region rfl ?_   -- R5
        refine wpO_val rfl (x_assignI rfl) ?_
        refine wpO_nil ?_
        refine wpF_block ?_   -- block 2
        refine wpF_loop (fun n f w => ∃ (j : Nat) (f0 : Fr), (j ≤ also.length ∧ n = also.length - j) ∧ Holds c g w ([] ++ F) ∧ f = updL f0 [(0, strV xs), (1, strV also), (5, .int .i64 (k : Nat)), (6, .bool (rbase xs[k] || (also.take j).any fun d => (xs[k].toNat : Int) == (d.toNat : Int))), (7, .int .i64 (j : Nat))]) also.length ?_ ?_
        · exact ⟨0, _, ⟨by omega, by omega⟩, H, updL_eta ⟨rfl, rfl, rfl, bq (by simp), rfl, trivial⟩⟩
        · rintro n f w ⟨j, f0, ⟨hj, hn⟩, H, rfl⟩
          refine wpF_seq ?_
          refine wpF_seq ?_
          refine wpF_region rfl ?_   -- R6
          refine wpO_val rfl (x_moveI rfl) ?_
          refine wpO_val rfl (x_moveS rfl) ?_
          refine wpO_val rfl (x_lenStr Tryz.underlying9 rfl) ?_
          refine wpO_val rfl (x_cmp rfl rfl rfl rfl) ?_
          refine wpO_nil ?_
          refine wpF_cond _ rfl (fun hc27 => ?_) (fun hc27 => ?_)
          ·
            have hj' : j < also.length := by rw [← hs2]; simpa using hc27
            have htk : (also.take (j + 1)).any (fun d => (xs[k].toNat : Int) == (d.toNat : Int)) = ((also.take j).any (fun d => (xs[k].toNat : Int) == (d.toNat : Int)) || (xs[k].toNat : Int) == (also[j].toNat : Int)) := by
              rw [List.take_succ_eq_append_getElem hj', List.any_append]; simp
            refine wpF_skip ?_
            refine wpF_seq ?_
            refine wpF_block ?_   -- block 3
            refine wpF_cut (fun f w => ∃ f0, Holds c g w ([] ++ F) ∧ f = updL f0 [(0, strV xs), (1, strV also), (5, .int .i64 (k : Nat)), (6, .bool (rbase xs[k] || (also.take (j + 1)).any fun d => (xs[k].toNat : Int) == (d.toNat : Int))), (7, .int .i64 (j : Nat))]) ?_ ?_   -- join R8
            ·
              refine wpF_drawC [0, 1, 2, 3, 4, 5, 6, 7, 8, 9, 10] [] [0, 0, 0, 0, 0, 0, 0, 0, 0, 0, 0] (fun _ _ => True) mixed (by kernel_rfl) rfl fun w hw => ?_   -- R8 DRAWS []
              have H := H.to hw
              refine wpDC_e rfl rfl rfl rfl (x_moveB rfl) ?_
              refine wpDC_e rfl rfl rfl rfl (x_moveB rfl) ?_
              refine wpDC_split 31 rfl (fun hb31 => ?_) (fun hb31 => ?_)
              ·
                refine wpDC_not rfl rfl rfl ?_
                refine wpDC_not rfl rfl rfl ?_
                refine wpDC_not rfl rfl rfl ?_
                refine wpDC_not rfl rfl rfl ?_
                refine wpDC_not rfl rfl rfl ?_
                refine wpDC_not rfl rfl rfl ?_
                refine wpDC_not rfl rfl rfl ?_
                refine wpDC_e rfl rfl rfl rfl (x_pickB rfl rfl) ?_
                refine wpDC_e rfl rfl rfl rfl (x_assignB rfl) ?_
                refine wpDC_nil ?_
                exact ⟨_, H, updL_eta ⟨rfl, rfl, rfl, bq (by rw [htk, ← Bool.or_assoc, hb31]; rfl), rfl, trivial⟩⟩
              ·
                refine wpDC_e rfl rfl rfl rfl (x_moveS rfl) ?_
                refine wpDC_e rfl rfl rfl rfl (x_moveI rfl) ?_
                refine wpDC_e rfl rfl rfl rfl (x_indexStr Tryz.underlying9 rfl rfl (by omega) (strAt hk')) ?_
                refine wpDC_e rfl rfl rfl rfl (x_moveS rfl) ?_
                refine wpDC_e rfl rfl rfl rfl (x_moveI rfl) ?_
                refine wpDC_e rfl rfl rfl rfl (x_indexStr Tryz.underlying9 rfl rfl (by omega) (strAt hj')) ?_
                refine wpDC_e rfl rfl rfl rfl (x_cmp rfl rfl rfl rfl) ?_
                refine wpDC_e rfl rfl rfl rfl (x_pickB rfl rfl) ?_
                refine wpDC_e rfl rfl rfl rfl (x_assignB rfl) ?_
                refine wpDC_nil ?_
                exact ⟨_, H, updL_eta ⟨rfl, rfl, rfl, bq (by rw [htk, ← Bool.or_assoc, hb31]; rfl), rfl, trivial⟩⟩
            · rintro f w ⟨f0, H, rfl⟩
              refine wpF_region rfl ?_   -- R7
              refine wpO_val rfl (x_moveI rfl) ?_
              refine wpO_val rfl (x_arith rfl rfl (fun _ => rfl) rfl) ?_
              refine wpO_val rfl (x_assignI rfl) ?_
              refine wpO_nil ?_
              exact ⟨also.length - (j + 1), by omega, j + 1, _, ⟨by omega, rfl⟩, H, updL_eta ⟨rfl, rfl, rfl, rfl, vi64 (w64 (by omega) (by omega)), trivial⟩⟩
          ·
            have hjj : j = also.length := by have h3 : ¬ (j : Int) < also.length := (by rw [← hs2]; simpa using hc27); omega
            subst hjj
            refine wpF_exit ?_   -- exit 2
            refine wpF_seq ?_
            refine wpF_region rfl ?_   -- R9
            refine wpO_val rfl (x_moveB rfl) ?_
            refine wpO_val rfl (x_not rfl) ?_
            refine wpO_nil ?_
            refine wpF_cond _ rfl (fun hc41 => ?_) (fun hc41 => ?_)
            ·
              refine wpF_seq ?_
              refine wpF_region rfl ?_   -- R10
              refine wpO_val rfl (x_assignB rfl) ?_
              refine wpO_nil ?_
              refine wpF_ret ?_
              repeat (with_reducible first | refine thenF_r ?_ | refine inBlockF_r ?_)
              refine end_t rfl rfl ?_   -- tmp:4
              have hx : rtextOk also xs[k] = false := by rw [List.take_length] at hc41; unfold rtextOk; exact (Bool.not_eq_true' _).mp hc41
              have hE : rtext xs also = false := by rw [rtext, List.all_eq_false]; exact ⟨xs[k], by simp, by simp [hx]⟩
              exact ⟨by rw [hE]; rfl, H⟩
            ·
              refine wpF_skip ?_
              refine wpF_region rfl ?_   -- R3
              refine wpO_val rfl (x_moveI rfl) ?_
              refine wpO_val rfl (x_arith rfl rfl (fun _ => rfl) rfl) ?_
              refine wpO_val rfl (x_assignI rfl) ?_
              refine wpO_nil ?_
              have hx : rtextOk also xs[k] = true := by rw [List.take_length] at hc41; unfold rtextOk; exact (Bool.not_eq_false' _).mp hc41
              exact ⟨xs.length - (k + 1), by omega, k + 1, _, ⟨by omega, rfl, by rw [List.take_succ_eq_append_getElem hk', List.all_append, hall]; simp [hx]⟩, H, updL_eta ⟨rfl, rfl, vi64 (w64 (by omega) (by omega)), trivial⟩⟩
    ·
      have hkk : k = xs.length := by have h3 : ¬ (k : Int) < xs.length := (by rw [← hs1]; simpa using hc11); omega
      subst hkk
      rw [List.take_length] at hall
      refine wpF_exit ?_   -- exit 0
      refine wpF_seq ?_
      refine wpF_region rfl ?_   -- R11
      refine wpO_val rfl (x_assignB rfl) ?_
      refine wpO_nil ?_
      refine wpF_ret ?_
      repeat (with_reducible first | refine thenF_r ?_ | refine inBlockF_r ?_)
      refine end_t rfl rfl ?_   -- tmp:4
      exact ⟨by rw [rtext, hall]; rfl, H⟩
-- >> rText_c
-- << rAmount_c
theorem rAmount_c {c : Cx} {g : Heap} {w : World} {F : List Asn} (a : Int) (H : Holds c g w F) :
    Calls Tryz.prog 133 #[.int .i64 a] w (Ret fun v w' => v = .bool (ramount a) ∧ Holds c g w' F) := by
  have H : Holds c g w ([] ++ F) := H
  -- tarmac/tarmacref09.amount  (function 133; params ['2']; results tmp:2; ntmps 9)
  refine calls_of_wpF Tryz.func133 rfl Tryz.ntmps133 rfl ?_
  refine wpF_seq ?_
  refine wpF_region rfl ?_   -- R0
  refine wpO_val rfl (x_assignB rfl) ?_
  refine wpO_nil ?_
  refine wpF_seq ?_
  refine wpF_region rfl ?_   -- R1
  refine wpO_val rfl (x_moveI rfl) ?_
  refine wpO_val rfl (x_cmp rfl rfl rfl rfl) ?_
  refine wpO_val rfl (x_moveB rfl) ?_
  refine wpO_split 5 rfl (fun hb5 => ?_) (fun hb5 => ?_)
  ·
    refine wpO_val rfl (x_moveI rfl) ?_
    refine wpO_eff rfl (e_callF (vs := [.int .i64 a]) Tryz.call135 rfl ((rMay_c a H).mono (Ret.mono ?_)))
    rintro v7 w ⟨rfl, H'⟩
    replace H := H.re H' rfl
    refine wpO_val rfl (x_pickB rfl rfl) ?_
    refine wpO_val rfl (x_assignB rfl) ?_
    refine wpO_nil ?_
    refine wpF_ret ?_
    repeat (with_reducible first | refine thenF_r ?_ | refine inBlockF_r ?_)
    refine end_t rfl rfl ?_   -- tmp:2
    exact ⟨bq (by unfold ramount; rw [hb5]; rfl), H⟩
  ·
    refine wpO_not rfl ?_
    refine wpO_not rfl ?_
    refine wpO_val rfl (x_pickB rfl rfl) ?_
    refine wpO_val rfl (x_assignB rfl) ?_
    refine wpO_nil ?_
    refine wpF_ret ?_
    repeat (with_reducible first | refine thenF_r ?_ | refine inBlockF_r ?_)
    refine end_t rfl rfl ?_   -- tmp:2
    exact ⟨bq (by unfold ramount; rw [hb5]; rfl), H⟩
-- >> rAmount_c
def rPrice (s : SaleP) (taxes : List Tax) : Int × Int := rsum (s.fare.n :: taxes.map fun t => t.amt.n)
def rShape (s : SaleP) (legs : List Leg) (taxes : List Tax) : Bool :=
  decide ((s.name.length : Int) ≥ 1) && decide ((s.name.length : Int) ≤ 32) && rtext s.name [32, 47] && decide ((legs.length : Int) ≥ 1) && decide ((legs.length : Int) ≤ 4) && ramount s.fare.n && decide ((taxes.length : Int) ≤ 4) && ramount s.pen.n
def rLegOk (n : Int) (l : Leg) : Bool := decide (l.car.n < n) && decide (l.wt.n > 0)
def rTaxOk (t : Tax) : Bool := ((t.code.length : Int) == 2) && rtext t.code [] && ramount t.amt.n
def rOk (s : SaleP) (legs : List Leg) (taxes : List Tax) (n : Int) : Bool := (rShape s legs taxes && legs.all (rLegOk n)) && taxes.all rTaxOk
def rCheck (s : SaleP) (legs : List Leg) (taxes : List Tax) (n : Int) : Int :=
  if (decide (n < 2) || decide (n > 8)) = true then 1 else if rOk s legs taxes n = true then (rPrice s taxes).2 else 90
def rTicket (t : Ticket) (n : Int) : Bool := decide (t.car.n < n) && decide (t.ser.n ≥ 1) && decide (t.ser.n ≤ 9999999999)
theorem all_snoc {α : Type} {p : α → Bool} {xs : List α} {k : Nat} (h : k < xs.length) : (xs.take (k + 1)).all p = ((xs.take k).all p && p xs[k]) := by
  rw [List.take_succ_eq_append_getElem h, List.all_append]; simp
theorem eltax_m (y : Tax) : (Tax.v y).cells.size = 2 := rfl

-- << rPrice_c
theorem rPrice_c {c : Cx} {g : Heap} {w : World} {F : List Asn} (s : SaleP) {taxes : List Tax} (hs : SlR g Tax.v 2 s.taxes taxes) (hl : taxes.length ≤ 1000) (H : Holds c g w F) :
    Calls Tryz.prog 134 #[s.v] w (Ret fun v w' => v = .tuple #[.int .i64 (rPrice s taxes).1, .int .i64 (rPrice s taxes).2] ∧ Holds c g w' F) := by
  have H : Holds c g w ([] ++ F) := H
  have hlen := hs.len
  -- tarmac/tarmacref09.Price  (function 134; params ['59']; results tmp:2 tmp:3; ntmps 29)
  refine calls_of_wpF Tryz.func134 rfl Tryz.ntmps134 rfl ?_
  refine wpF_seq ?_
  refine wpF_region rfl ?_   -- R0
  refine wpO_eff rfl (e_boxA H rfl fun b1 w H => ?_)
  refine wpO_val rfl (x_assignI rfl) ?_
  refine wpO_val rfl (x_assignI rfl) ?_
  refine wpO_nil ?_
  refine wpF_seq ?_
  refine wpF_region rfl ?_   -- R1
  refine wpO_val rfl (x_fieldAddrN Tryz.underlying59 rfl Tryz.sizeOf2 rfl rfl) ?_
  refine wpO_val rfl (x_load0bI Tryz.isAgg2 rfl (H.getF 0 rfl) rfl) ?_
  refine wpO_eff rfl (e_buildSlice H Tryz.underlying60 Tryz.sizeOf2 Tryz.zeroValue2 rfl rfl (vs := [s.fare.v]) (by kernel_rfl) (by kernel_rfl) (cs := [s.fare.v]) (by kernel_rfl) fun b8 w H => ?_)
  have H := H.toRowAt (m := 1) (n := 1) 1 rfl rfl
  refine wpO_val rfl (x_assignL rfl) ?_
  refine wpO_nil ?_
  refine wpF_seq ?_
  refine wpF_seq ?_
  refine wpF_region rfl ?_   -- R2
  refine wpO_val rfl (x_assignI rfl) ?_
  refine wpO_nil ?_
  refine wpF_block ?_   -- block 0
  refine wpF_loop (fun n f w => ∃ (k : Nat) (s4 : Sl) (f0 : Fr), (k ≤ taxes.length ∧ n = taxes.length - k ∧ s4.len = k + 1) ∧ Holds c g w ([pt b1 (.cells s.v.cells 59), rowO s4 (s.fare.n :: (taxes.take k).map fun t => t.amt.n)] ++ F) ∧ f = updL f0 [(1, .pointer (some ⟨b1, 0, none⟩)), (4, s4.v), (5, .int .i64 (k : Nat))]) taxes.length ?_ ?_
  · exact ⟨0, ⟨some ⟨b8, 0, none⟩, 1, 1⟩, _, ⟨by omega, by omega, rfl⟩, H, updL_eta ⟨rfl, rfl, rfl, trivial⟩⟩
  · rintro n f w ⟨k, s4, f0, ⟨hk, hn, hl4⟩, H, rfl⟩
    refine wpF_seq ?_
    refine wpF_seq ?_
    refine wpF_region rfl ?_   -- R3
    refine wpO_val rfl (x_moveI rfl) ?_
    refine wpO_val rfl (x_fieldAddrN Tryz.underlying59 rfl Tryz.sizeOf57 rfl rfl) ?_
    refine wpO_val rfl (x_load0bL Tryz.isAgg57 rfl (H.getF 0 rfl) rfl) ?_
    refine wpO_val rfl (x_lenSl Tryz.underlying57 rfl) ?_
    refine wpO_val rfl (x_cmp rfl rfl rfl rfl) ?_
    refine wpO_nil ?_
    refine wpF_cond _ rfl (fun hc13 => ?_) (fun hc13 => ?_)
    ·
      have hk' : k < taxes.length := by rw [← hlen]; simpa using hc13
      refine wpF_skip ?_
      refine wpF_seq ?_
      refine wpF_block ?_   -- block 1
      refine wpF_region rfl ?_   -- R5
      refine wpO_val rfl (x_moveL rfl) ?_
      refine wpO_val rfl (x_fieldAddrN Tryz.underlying59 rfl Tryz.sizeOf57 rfl rfl) ?_
      refine wpO_val rfl (x_load0bL Tryz.isAgg57 rfl (H.getF 0 rfl) rfl) ?_
      refine wpO_val rfl (x_moveI rfl) ?_
      refine wpO_val rfl (x_indexEl hs Tryz.underlying57 Tryz.sizeOf158 rfl rfl (by omega) (by omega)) ?_
      refine wpO_val rfl (x_fieldAddr Tryz.underlying158 rfl Tryz.sizeOf2 rfl) ?_
      refine wpO_val rfl (x_loadElF (o := 1) Tryz.isAgg2 hs H rfl (List.getElem?_eq_getElem hk') rfl rfl) ?_
      refine wpO_eff rfl (e_buildSlice H Tryz.underlying60 Tryz.sizeOf2 Tryz.zeroValue2 rfl rfl (vs := [encI taxes[k].amt.n]) rfl rfl (cs := [encI taxes[k].amt.n]) rfl fun b23 w H => ?_)
      refine wpO_eff rfl (e_append1 (enc := encI) taxes[k].amt.n H 1 2 rfl rfl Tryz.underlying60 isint64 rfl rfl rfl rfl (by omega) (by omega) fun s24 w hs24 hn24 H => ?_)
      refine wpO_val rfl (x_assignL rfl) ?_
      refine wpO_nil ?_
      refine wpF_region rfl ?_   -- R4
      refine wpO_val rfl (x_moveI rfl) ?_
      refine wpO_val rfl (x_arith rfl rfl (fun _ => rfl) rfl) ?_
      refine wpO_val rfl (x_assignI rfl) ?_
      refine wpO_nil ?_
      have H : Holds c g w ([pt b1 (.cells s.v.cells 59), rowO s24 (s.fare.n :: (taxes.take (k + 1)).map fun t => t.amt.n)] ++ F) := by
        rw [List.take_succ_eq_append_getElem hk', List.map_append]
        exact H.sel [0, 1] 3 rfl rfl
      exact ⟨taxes.length - (k + 1), by omega, k + 1, s24, _, ⟨by omega, rfl, by omega⟩, H, updL_eta ⟨rfl, rfl, vi64 (w64 (by omega) (by omega)), trivial⟩⟩
    ·
      have hkk : k = taxes.length := by have h3 : ¬ (k : Int) < taxes.length := (by rw [← hlen]; simpa using hc13); omega
      subst hkk
      rw [List.take_length] at H
      obtain ⟨g', hle, H, hr⟩ := Holds.sealRow (enc := encI) (xs := s.fare.n :: taxes.map fun t => t.amt.n) (show Holds c g w (rowA 2 1 s4 (flat encI (s.fare.n :: taxes.map fun t => t.amt.n)) :: F) from H.sel [1] 2 rfl rfl) rfl (fun _ _ => rfl) (by decide)
      refine wpF_exit ?_   -- exit 0
      refine wpF_seq ?_
      refine wpF_region rfl ?_   -- R6
      refine wpO_val rfl (x_moveL rfl) ?_
      refine wpO_eff rfl (e_callF (vs := [s4.v]) Tryz.call164 rfl ((rSum_c hr (by simp; omega) H).mono (Ret.mono ?_)))
      rintro v26 w ⟨rfl, H⟩
      refine wpO_val rfl (x_extractI rfl rfl) ?_
      refine wpO_val rfl (x_extractI rfl rfl) ?_
      refine wpO_val rfl (x_assignI rfl) ?_
      refine wpO_val rfl (x_assignI rfl) ?_
      refine wpO_nil ?_
      refine wpF_ret ?_
      repeat (with_reducible first | refine thenF_r ?_ | refine inBlockF_r ?_)
      refine end_tt rfl rfl rfl ?_   -- tmp:2 tmp:3
      exact ⟨rfl, H.forget hle⟩
-- >> rPrice_c
-- << rTicket_c
theorem rTicket_c {c : Cx} {g : Heap} {w : World} {F : List Asn} (t : Ticket) (n : Int) (H : Holds c g w F) :
    Calls Tryz.prog 75 #[t.v, .int .i64 n] w (Ret fun v w' => v = .bool (rTicket t n) ∧ Holds c g w' F) := by
  have H : Holds c g w ([] ++ F) := H
  have hw8 : IntKind.i64.wrap t.car.n = t.car.n := w64 (by have := t.car.u8; omega) (by have := t.car.u8; omega)
  -- tarmac/tarmacref09.Ticket  (function 75; params ['25', '3']; results tmp:4; ntmps 20)
  refine calls_of_wpF Tryz.func75 rfl Tryz.ntmps75 rfl ?_
  refine wpF_seq ?_
  refine wpF_region rfl ?_   -- R0
  refine wpO_eff rfl (e_boxA H rfl fun b2 w H => ?_)
  refine wpO_val rfl (x_assignB rfl) ?_
  refine wpO_nil ?_
  refine wpF_seq ?_
  refine wpF_region rfl ?_   -- R1
  refine wpO_val rfl (x_fieldAddrN Tryz.underlying25 rfl Tryz.sizeOf5 rfl rfl) ?_
  refine wpO_val rfl (x_load0bI Tryz.isAgg5 rfl (H.getF 0 rfl) rfl) ?_
  refine wpO_val rfl (x_conv Tryz.underlying5 Tryz.underlying3 rfl) ?_
  refine wpO_val rfl (x_moveI rfl) ?_
  refine wpO_val rfl (x_cmp rfl rfl rfl rfl) ?_
  refine wpO_val rfl (x_moveB rfl) ?_
  refine wpO_split 10 rfl (fun hb10 => ?_) (fun hb10 => ?_)
  ·
    refine wpO_val rfl (x_fieldAddrN Tryz.underlying25 rfl Tryz.sizeOf23 rfl rfl) ?_
    refine wpO_val rfl (x_load0bI Tryz.isAgg23 rfl (H.getF 0 rfl) rfl) ?_
    refine wpO_val rfl (x_cmp rfl rfl rfl rfl) ?_
    refine wpO_val rfl (x_pickB rfl rfl) ?_
    refine wpO_val rfl (x_moveB rfl) ?_
    refine wpO_split 15 rfl (fun hb15 => ?_) (fun hb15 => ?_)
    ·
      refine wpO_val rfl (x_fieldAddrN Tryz.underlying25 rfl Tryz.sizeOf23 rfl rfl) ?_
      refine wpO_val rfl (x_load0bI Tryz.isAgg23 rfl (H.getF 0 rfl) rfl) ?_
      refine wpO_val rfl (x_cmp rfl rfl rfl rfl) ?_
      refine wpO_val rfl (x_pickB rfl rfl) ?_
      refine wpO_val rfl (x_assignB rfl) ?_
      refine wpO_nil ?_
      refine wpF_ret ?_
      repeat (with_reducible first | refine thenF_r ?_ | refine inBlockF_r ?_)
      refine end_t rfl rfl ?_   -- tmp:4
      rw [hw8] at hb10
      exact ⟨bq (by unfold rTicket; rw [hb10, hb15]; rfl), H.sel [] 1 rfl rfl⟩
    ·
      refine wpO_not rfl ?_
      refine wpO_not rfl ?_
      refine wpO_not rfl ?_
      refine wpO_val rfl (x_pickB rfl rfl) ?_
      refine wpO_val rfl (x_assignB rfl) ?_
      refine wpO_nil ?_
      refine wpF_ret ?_
      repeat (with_reducible first | refine thenF_r ?_ | refine inBlockF_r ?_)
      refine end_t rfl rfl ?_   -- tmp:4
      rw [hw8] at hb10
      exact ⟨bq (by unfold rTicket; rw [hb10, hb15]; rfl), H.sel [] 1 rfl rfl⟩
  ·
    refine wpO_not rfl ?_
    refine wpO_not rfl ?_
    refine wpO_not rfl ?_
    refine wpO_val rfl (x_pickB rfl rfl) ?_
    refine wpO_val rfl (x_moveB rfl) ?_
    refine wpO_not rfl ?_
    refine wpO_not rfl ?_
    refine wpO_not rfl ?_
    refine wpO_val rfl (x_pickB rfl rfl) ?_
    refine wpO_val rfl (x_assignB rfl) ?_
    refine wpO_nil ?_
    refine wpF_ret ?_
    repeat (with_reducible first | refine thenF_r ?_ | refine inBlockF_r ?_)
    refine end_t rfl rfl ?_   -- tmp:4
    rw [hw8] at hb10
    exact ⟨bq (by unfold rTicket; rw [hb10]; rfl), H.sel [] 1 rfl rfl⟩
-- >> rTicket_c
-- << rCheck_c
theorem rCheck_c {c : Cx} {g : Heap} {w : World} {F : List Asn} (s : SaleP) (legs : List Leg) (taxes : List Tax) (n : Int) (hs : SaleR g s legs taxes) (hn : s.name.length ≤ 1000) (hl : legs.length ≤ 1000) (ht : taxes.length ≤ 1000) (H : Holds c g w F) :
    Calls Tryz.prog 106 #[s.v, .int .i64 n] w (Ret fun v w' => v = .int .i64 (rCheck s legs taxes n) ∧ Holds c g w' F) := by
  have H : Holds c g w ([] ++ F) := H
  have hll := hs.l.len
  have htl := hs.t.len
  have hsz := str_size s.name
  -- tarmac/tarmacref09.Check  (function 106; params ['59', '3']; results tmp:4; ntmps 131)
  refine calls_of_wpF Tryz.func106 rfl Tryz.ntmps106 rfl ?_
  refine wpF_seq ?_
  refine wpF_region rfl ?_   -- R0
  refine wpO_eff rfl (e_boxA H rfl fun b2 w H => ?_)
  refine wpO_val rfl (x_assignI rfl) ?_
  refine wpO_nil ?_
  refine wpF_seq ?_
  refine wpF_seq ?_
  refine wpF_cut (fun f w => ∃ f0, Holds c g w ([pt b2 (.cells s.v.cells 59)] ++ F) ∧ f = updL f0 [(1, .int .i64 n), (2, .pointer (some ⟨b2, 0, none⟩)), (15, .bool (decide (n < 2) || decide (n > 8)))]) ?_ ?_
  ·
    refine wpF_region rfl ?_   -- R1
    refine wpO_val rfl (x_moveI rfl) ?_
    refine wpO_val rfl (x_cmp rfl rfl rfl rfl) ?_
    refine wpO_val rfl (x_moveB rfl) ?_
    refine wpO_split 12 rfl (fun hb12 => ?_) (fun hb12 => ?_)
    ·
      refine wpO_not rfl ?_
      refine wpO_not rfl ?_
      refine wpO_val rfl (x_pickB rfl rfl) ?_
      refine wpO_nil ?_
      exact ⟨_, H, updL_eta ⟨rfl, rfl, bq (by rw [hb12]; rfl), trivial⟩⟩
    ·
      refine wpO_val rfl (x_moveI rfl) ?_
      refine wpO_val rfl (x_cmp rfl rfl rfl rfl) ?_
      refine wpO_val rfl (x_pickB rfl rfl) ?_
      refine wpO_nil ?_
      exact ⟨_, H, updL_eta ⟨rfl, rfl, bq (by rw [hb12]; rfl), trivial⟩⟩
  · rintro f w ⟨f0, H, rfl⟩
    refine wpF_cond _ rfl (fun hc15 => ?_) (fun hc15 => ?_)
    ·
      refine wpF_seq ?_
      refine wpF_region rfl ?_   -- R2
      refine wpO_val rfl (x_assignI rfl) ?_
      refine wpO_nil ?_
      refine wpF_ret ?_
      repeat (with_reducible first | refine thenF_r ?_ | refine inBlockF_r ?_)
      refine end_t rfl rfl ?_   -- tmp:4
      exact ⟨by rw [rCheck, if_pos hc15]; rfl, H.sel [] 1 rfl rfl⟩
    ·
      have hc0 : ¬ (decide (n < 2) || decide (n > 8)) = true := by rw [hc15]; decide
      refine wpF_skip ?_
      refine wpF_seq ?_
      refine wpF_cut (fun f w => ∃ f0, Holds c g w ([pt b2 (.cells s.v.cells 59)] ++ F) ∧ f = updL f0 [(1, .int .i64 n), (2, .pointer (some ⟨b2, 0, none⟩)), (5, .bool (rShape s legs taxes))]) ?_ ?_
      ·
        refine wpF_region rfl ?_   -- R3
        refine wpO_val rfl (x_fieldAddrN Tryz.underlying59 rfl Tryz.sizeOf9 rfl rfl) ?_
        refine wpO_val rfl (x_load0bS Tryz.isAgg9 rfl (H.getF 0 rfl) rfl) ?_
        refine wpO_val rfl (x_lenStr Tryz.underlying9 rfl) ?_
        refine wpO_val rfl (x_cmp rfl rfl rfl rfl) ?_
        refine wpO_val rfl (x_moveB rfl) ?_
        refine wpO_split 20 rfl (fun hb20 => ?_) (fun hb20 => ?_)
        ·
          refine wpO_val rfl (x_fieldAddrN Tryz.underlying59 rfl Tryz.sizeOf9 rfl rfl) ?_
          refine wpO_val rfl (x_load0bS Tryz.isAgg9 rfl (H.getF 0 rfl) rfl) ?_
          refine wpO_val rfl (x_lenStr Tryz.underlying9 rfl) ?_
          refine wpO_val rfl (x_cmp rfl rfl rfl rfl) ?_
          refine wpO_val rfl (x_pickB rfl rfl) ?_
          refine wpO_val rfl (x_moveB rfl) ?_
          refine wpO_split 26 rfl (fun hb26 => ?_) (fun hb26 => ?_)
          ·
            refine wpO_val rfl (x_fieldAddrN Tryz.underlying59 rfl Tryz.sizeOf9 rfl rfl) ?_
            refine wpO_val rfl (x_load0bS Tryz.isAgg9 rfl (H.getF 0 rfl) rfl) ?_
            refine wpO_eff rfl (e_callF (vs := [strV s.name, strV [32, 47]]) Tryz.call132 rfl ((rText_c s.name [32, 47] (by omega) (by decide) H).mono (Ret.mono ?_)))
            rintro v29 w ⟨rfl, H'⟩
            replace H := H.re H' rfl
            refine wpO_val rfl (x_pickB rfl rfl) ?_
            refine wpO_val rfl (x_moveB rfl) ?_
            refine wpO_split 31 rfl (fun hb31 => ?_) (fun hb31 => ?_)
            ·
              refine wpO_val rfl (x_fieldAddrN Tryz.underlying59 rfl Tryz.sizeOf56 rfl rfl) ?_
              refine wpO_val rfl (x_load0bL Tryz.isAgg56 rfl (H.getF 0 rfl) rfl) ?_
              refine wpO_val rfl (x_lenSl Tryz.underlying56 rfl) ?_
              refine wpO_val rfl (x_cmp rfl rfl rfl rfl) ?_
              refine wpO_val rfl (x_pickB rfl rfl) ?_
              refine wpO_val rfl (x_moveB rfl) ?_
              refine wpO_split 37 rfl (fun hb37 => ?_) (fun hb37 => ?_)
              ·
                refine wpO_val rfl (x_fieldAddrN Tryz.underlying59 rfl Tryz.sizeOf56 rfl rfl) ?_
                refine wpO_val rfl (x_load0bL Tryz.isAgg56 rfl (H.getF 0 rfl) rfl) ?_
                refine wpO_val rfl (x_lenSl Tryz.underlying56 rfl) ?_
                refine wpO_val rfl (x_cmp rfl rfl rfl rfl) ?_
                refine wpO_val rfl (x_pickB rfl rfl) ?_
                refine wpO_val rfl (x_moveB rfl) ?_
                refine wpO_split 43 rfl (fun hb43 => ?_) (fun hb43 => ?_)
                ·
                  refine wpO_val rfl (x_fieldAddrN Tryz.underlying59 rfl Tryz.sizeOf2 rfl rfl) ?_
                  refine wpO_val rfl (x_load0bI Tryz.isAgg2 rfl (H.getF 0 rfl) rfl) ?_
                  refine wpO_eff rfl (e_callF (vs := [s.fare.v]) Tryz.call133 rfl ((rAmount_c s.fare.n H).mono (Ret.mono ?_)))   -- of t45
                  rintro v46 w ⟨rfl, H'⟩
                  replace H := H.re H' rfl
                  refine wpO_val rfl (x_pickB rfl rfl) ?_
                  refine wpO_val rfl (x_moveB rfl) ?_
                  refine wpO_split 48 rfl (fun hb48 => ?_) (fun hb48 => ?_)
                  ·
                    refine wpO_val rfl (x_fieldAddrN Tryz.underlying59 rfl Tryz.sizeOf57 rfl rfl) ?_
                    refine wpO_val rfl (x_load0bL Tryz.isAgg57 rfl (H.getF 0 rfl) rfl) ?_
                    refine wpO_val rfl (x_lenSl Tryz.underlying57 rfl) ?_
                    refine wpO_val rfl (x_cmp rfl rfl rfl rfl) ?_
                    refine wpO_val rfl (x_pickB rfl rfl) ?_
                    refine wpO_val rfl (x_moveB rfl) ?_
                    refine wpO_split 54 rfl (fun hb54 => ?_) (fun hb54 => ?_)
                    ·
                      refine wpO_val rfl (x_fieldAddrN Tryz.underlying59 rfl Tryz.sizeOf2 rfl rfl) ?_
                      refine wpO_val rfl (x_load0bI Tryz.isAgg2 rfl (H.getF 0 rfl) rfl) ?_
                      refine wpO_eff rfl (e_callF (vs := [s.pen.v]) Tryz.call133 rfl ((rAmount_c s.pen.n H).mono (Ret.mono ?_)))   -- of t56
                      rintro v57 w ⟨rfl, H'⟩
                      replace H := H.re H' rfl
                      refine wpO_val rfl (x_pickB rfl rfl) ?_
                      refine wpO_val rfl (x_assignB rfl) ?_
                      refine wpO_nil ?_
                      exact ⟨_, H, updL_eta ⟨rfl, rfl, bq (by rw [rShape, ← hsz, ← hll, ← htl, hb20, hb26, hb31, hb37, hb43, hb48, hb54]; simp), trivial⟩⟩
                    ·
                      refine wpO_not rfl ?_
                      refine wpO_not rfl ?_
                      refine wpO_not rfl ?_
                      refine wpO_val rfl (x_pickB rfl rfl) ?_
                      refine wpO_val rfl (x_assignB rfl) ?_
                      refine wpO_nil ?_
                      exact ⟨_, H, updL_eta ⟨rfl, rfl, bq (by rw [rShape, ← hsz, ← hll, ← htl, hb20, hb26, hb31, hb37, hb43, hb48, hb54]; simp), trivial⟩⟩
                  ·
                    refine wpO_not rfl ?_
                    refine wpO_not rfl ?_
                    refine wpO_not rfl ?_
                    refine wpO_not rfl ?_
                    refine wpO_val rfl (x_pickB rfl rfl) ?_
                    refine wpO_val rfl (x_moveB rfl) ?_
                    refine wpO_not rfl ?_
                    refine wpO_not rfl ?_
                    refine wpO_not rfl ?_
                    refine wpO_val rfl (x_pickB rfl rfl) ?_
                    refine wpO_val rfl (x_assignB rfl) ?_
                    refine wpO_nil ?_
                    exact ⟨_, H, updL_eta ⟨rfl, rfl, bq (by rw [rShape, ← hsz, ← hll, ← htl, hb20, hb26, hb31, hb37, hb43, hb48]; simp), trivial⟩⟩
                ·
                  refine wpO_not rfl ?_
                  refine wpO_not rfl ?_
                  refine wpO_not rfl ?_
                  refine wpO_val rfl (x_pickB rfl rfl) ?_
                  refine wpO_val rfl (x_moveB rfl) ?_
                  refine wpO_not rfl ?_
                  refine wpO_not rfl ?_
                  refine wpO_not rfl ?_
                  refine wpO_not rfl ?_
                  refine wpO_val rfl (x_pickB rfl rfl) ?_
                  refine wpO_val rfl (x_moveB rfl) ?_
                  refine wpO_not rfl ?_
                  refine wpO_not rfl ?_
                  refine wpO_not rfl ?_
                  refine wpO_val rfl (x_pickB rfl rfl) ?_
                  refine wpO_val rfl (x_assignB rfl) ?_
                  refine wpO_nil ?_
                  exact ⟨_, H, updL_eta ⟨rfl, rfl, bq (by rw [rShape, ← hsz, ← hll, ← htl, hb20, hb26, hb31, hb37, hb43]; simp), trivial⟩⟩
              ·
                refine wpO_not rfl ?_
                refine wpO_not rfl ?_
                refine wpO_not rfl ?_
                refine wpO_not rfl ?_
                refine wpO_val rfl (x_pickB rfl rfl) ?_
                refine wpO_val rfl (x_moveB rfl) ?_
                refine wpO_not rfl ?_
                refine wpO_not rfl ?_
                refine wpO_not rfl ?_
                refine wpO_val rfl (x_pickB rfl rfl) ?_
                refine wpO_val rfl (x_moveB rfl) ?_
                refine wpO_not rfl ?_
                refine wpO_not rfl ?_
                refine wpO_not rfl ?_
                refine wpO_not rfl ?_
                refine wpO_val rfl (x_pickB rfl rfl) ?_
                refine wpO_val rfl (x_moveB rfl) ?_
                refine wpO_not rfl ?_
                refine wpO_not rfl ?_
                refine wpO_not rfl ?_
                refine wpO_val rfl (x_pickB rfl rfl) ?_
                refine wpO_val rfl (x_assignB rfl) ?_
                refine wpO_nil ?_
                exact ⟨_, H, updL_eta ⟨rfl, rfl, bq (by rw [rShape, ← hsz, ← hll, ← htl, hb20, hb26, hb31, hb37]; simp), trivial⟩⟩
            ·
              refine wpO_not rfl ?_
              refine wpO_not rfl ?_
              refine wpO_not rfl ?_
              refine wpO_not rfl ?_
              refine wpO_val rfl (x_pickB rfl rfl) ?_
              refine wpO_val rfl (x_moveB rfl) ?_
              refine wpO_not rfl ?_
              refine wpO_not rfl ?_
              refine wpO_not rfl ?_
              refine wpO_not rfl ?_
              refine wpO_val rfl (x_pickB rfl rfl) ?_
              refine wpO_val rfl (x_moveB rfl) ?_
              refine wpO_not rfl ?_
              refine wpO_not rfl ?_
              refine wpO_not rfl ?_
              refine wpO_val rfl (x_pickB rfl rfl) ?_
              refine wpO_val rfl (x_moveB rfl) ?_
              refine wpO_not rfl ?_
              refine wpO_not rfl ?_
              refine wpO_not rfl ?_
              refine wpO_not rfl ?_
              refine wpO_val rfl (x_pickB rfl rfl) ?_
              refine wpO_val rfl (x_moveB rfl) ?_
              refine wpO_not rfl ?_
              refine wpO_not rfl ?_
              refine wpO_not rfl ?_
              refine wpO_val rfl (x_pickB rfl rfl) ?_
              refine wpO_val rfl (x_assignB rfl) ?_
              refine wpO_nil ?_
              exact ⟨_, H, updL_eta ⟨rfl, rfl, bq (by rw [rShape, ← hsz, ← hll, ← htl, hb20, hb26, hb31]; simp), trivial⟩⟩
          ·
            refine wpO_not rfl ?_
            refine wpO_not rfl ?_
            refine wpO_not rfl ?_
            refine wpO_val rfl (x_pickB rfl rfl) ?_
            refine wpO_val rfl (x_moveB rfl) ?_
            refine wpO_not rfl ?_
            refine wpO_not rfl ?_
            refine wpO_not rfl ?_
            refine wpO_not rfl ?_
            refine wpO_val rfl (x_pickB rfl rfl) ?_
            refine wpO_val rfl (x_moveB rfl) ?_
            refine wpO_not rfl ?_
            refine wpO_not rfl ?_
            refine wpO_not rfl ?_
            refine wpO_not rfl ?_
            refine wpO_val rfl (x_pickB rfl rfl) ?_
            refine wpO_val rfl (x_moveB rfl) ?_
            refine wpO_not rfl ?_
            refine wpO_not rfl ?_
            refine wpO_not rfl ?_
            refine wpO_val rfl (x_pickB rfl rfl) ?_
            refine wpO_val rfl (x_moveB rfl) ?_
            refine wpO_not rfl ?_
            refine wpO_not rfl ?_
            refine wpO_not rfl ?_
            refine wpO_not rfl ?_
            refine wpO_val rfl (x_pickB rfl rfl) ?_
            refine wpO_val rfl (x_moveB rfl) ?_
            refine wpO_not rfl ?_
            refine wpO_not rfl ?_
            refine wpO_not rfl ?_
            refine wpO_val rfl (x_pickB rfl rfl) ?_
            refine wpO_val rfl (x_assignB rfl) ?_
            refine wpO_nil ?_
            exact ⟨_, H, updL_eta ⟨rfl, rfl, bq (by rw [rShape, ← hsz, ← hll, ← htl, hb20, hb26]; simp), trivial⟩⟩
        ·
          refine wpO_not rfl ?_
          refine wpO_not rfl ?_
          refine wpO_not rfl ?_
          refine wpO_not rfl ?_
          refine wpO_val rfl (x_pickB rfl rfl) ?_
          refine wpO_val rfl (x_moveB rfl) ?_
          refine wpO_not rfl ?_
          refine wpO_not rfl ?_
          refine wpO_not rfl ?_
          refine wpO_val rfl (x_pickB rfl rfl) ?_
          refine wpO_val rfl (x_moveB rfl) ?_
          refine wpO_not rfl ?_
          refine wpO_not rfl ?_
          refine wpO_not rfl ?_
          refine wpO_not rfl ?_
          refine wpO_val rfl (x_pickB rfl rfl) ?_
          refine wpO_val rfl (x_moveB rfl) ?_
          refine wpO_not rfl ?_
          refine wpO_not rfl ?_
          refine wpO_not rfl ?_
          refine wpO_not rfl ?_
          refine wpO_val rfl (x_pickB rfl rfl) ?_
          refine wpO_val rfl (x_moveB rfl) ?_
          refine wpO_not rfl ?_
          refine wpO_not rfl ?_
          refine wpO_not rfl ?_
          refine wpO_val rfl (x_pickB rfl rfl) ?_
          refine wpO_val rfl (x_moveB rfl) ?_
          refine wpO_not rfl ?_
          refine wpO_not rfl ?_
          refine wpO_not rfl ?_
          refine wpO_not rfl ?_
          refine wpO_val rfl (x_pickB rfl rfl) ?_
          refine wpO_val rfl (x_moveB rfl) ?_
          refine wpO_not rfl ?_
          refine wpO_not rfl ?_
          refine wpO_not rfl ?_
          refine wpO_val rfl (x_pickB rfl rfl) ?_
          refine wpO_val rfl (x_assignB rfl) ?_
          refine wpO_nil ?_
          exact ⟨_, H, updL_eta ⟨rfl, rfl, bq (by rw [rShape, ← hsz, ← hll, ← htl, hb20]; simp), trivial⟩⟩
      · rintro f w ⟨f0, H, rfl⟩
        refine wpF_seq ?_
        refine wpF_seq ?_
        refine wpF_region rfl ?_   -- R4
        refine wpO_val rfl (x_assignI rfl) ?_
        refine wpO_nil ?_
        refine wpF_block ?_   -- block 0
        refine wpF_loop (fun q f w => ∃ (k : Nat) (f0 : Fr), (k ≤ legs.length ∧ q = legs.length - k) ∧ Holds c g w ([pt b2 (.cells s.v.cells 59)] ++ F) ∧ f = updL f0 [(1, .int .i64 n), (2, .pointer (some ⟨b2, 0, none⟩)), (5, .bool (rShape s legs taxes && (legs.take k).all (rLegOk n))), (6, .int .i64 (k : Nat))]) legs.length ?_ ?_
        · exact ⟨0, _, ⟨by omega, by omega⟩, H, updL_eta ⟨rfl, rfl, bq (by simp), rfl, trivial⟩⟩
        · rintro q f w ⟨k, f0, ⟨hk, hq⟩, H, rfl⟩
          refine wpF_seq ?_
          refine wpF_seq ?_
          refine wpF_region rfl ?_   -- R5
          refine wpO_val rfl (x_moveI rfl) ?_
          refine wpO_val rfl (x_fieldAddrN Tryz.underlying59 rfl Tryz.sizeOf56 rfl rfl) ?_
          refine wpO_val rfl (x_load0bL Tryz.isAgg56 rfl (H.getF 0 rfl) rfl) ?_
          refine wpO_val rfl (x_lenSl Tryz.underlying56 rfl) ?_
          refine wpO_val rfl (x_cmp rfl rfl rfl rfl) ?_
          refine wpO_nil ?_
          refine wpF_cond _ rfl (fun hc63 => ?_) (fun hc63 => ?_)
          ·
            have hk' : k < legs.length := by rw [← hll]; simpa using hc63
            have hw8 : IntKind.i64.wrap legs[k].car.n = legs[k].car.n := w64 (by have := legs[k].car.u8; omega) (by have := legs[k].car.u8; omega)
            refine wpF_skip ?_
            refine wpF_seq ?_
            refine wpF_block ?_   -- block 1
            refine wpF_cut (fun f w => ∃ f0, Holds c g w ([pt b2 (.cells s.v.cells 59)] ++ F) ∧ f = updL f0 [(1, .int .i64 n), (2, .pointer (some ⟨b2, 0, none⟩)), (5, .bool (rShape s legs taxes && (legs.take (k + 1)).all (rLegOk n))), (6, .int .i64 (k : Nat))]) ?_ ?_
            ·
              refine wpF_region rfl ?_   -- R7
              refine wpO_val rfl (x_moveB rfl) ?_
              refine wpO_val rfl (x_moveB rfl) ?_
              refine wpO_split 67 rfl (fun hb67 => ?_) (fun hb67 => ?_)
              ·
                refine wpO_val rfl (x_fieldAddrN Tryz.underlying59 rfl Tryz.sizeOf56 rfl rfl) ?_
                refine wpO_val rfl (x_load0bL Tryz.isAgg56 rfl (H.getF 0 rfl) rfl) ?_
                refine wpO_val rfl (x_moveI rfl) ?_
                refine wpO_val rfl (x_indexEl hs.l Tryz.underlying56 Tryz.sizeOf31 rfl rfl (by omega) (by omega)) ?_
                refine wpO_val rfl (x_fieldAddr Tryz.underlying31 rfl Tryz.sizeOf5 rfl) ?_
                refine wpO_val rfl (x_loadElF (o := 0) Tryz.isAgg5 hs.l H rfl (List.getElem?_eq_getElem hk') rfl rfl) ?_
                refine wpO_val rfl (x_conv Tryz.underlying5 Tryz.underlying3 rfl) ?_
                refine wpO_val rfl (x_moveI rfl) ?_
                refine wpO_val rfl (x_cmp rfl rfl rfl rfl) ?_
                refine wpO_val rfl (x_pickB rfl rfl) ?_
                refine wpO_val rfl (x_moveB rfl) ?_
                refine wpO_split 78 rfl (fun hb78 => ?_) (fun hb78 => ?_)
                ·
                  refine wpO_val rfl (x_fieldAddrN Tryz.underlying59 rfl Tryz.sizeOf56 rfl rfl) ?_
                  refine wpO_val rfl (x_load0bL Tryz.isAgg56 rfl (H.getF 0 rfl) rfl) ?_
                  refine wpO_val rfl (x_moveI rfl) ?_
                  refine wpO_val rfl (x_indexEl hs.l Tryz.underlying56 Tryz.sizeOf31 rfl rfl (by omega) (by omega)) ?_
                  refine wpO_val rfl (x_fieldAddr Tryz.underlying31 rfl Tryz.sizeOf29 rfl) ?_
                  refine wpO_val rfl (x_loadElF (o := 2) Tryz.isAgg29 hs.l H rfl (List.getElem?_eq_getElem hk') rfl rfl) ?_
                  refine wpO_val rfl (x_cmp rfl rfl rfl rfl) ?_
                  refine wpO_val rfl (x_pickB rfl rfl) ?_
                  refine wpO_val rfl (x_assignB rfl) ?_
                  refine wpO_nil ?_
                  rw [hw8] at hb78
                  exact ⟨_, H, updL_eta ⟨rfl, rfl, bq (by rw [all_snoc hk', ← Bool.and_assoc, hb67, rLegOk, hb78]; simp), rfl, trivial⟩⟩
                ·
                  refine wpO_not rfl ?_
                  refine wpO_not rfl ?_
                  refine wpO_not rfl ?_
                  refine wpO_not rfl ?_
                  refine wpO_not rfl ?_
                  refine wpO_not rfl ?_
                  refine wpO_not rfl ?_
                  refine wpO_val rfl (x_pickB rfl rfl) ?_
                  refine wpO_val rfl (x_assignB rfl) ?_
                  refine wpO_nil ?_
                  rw [hw8] at hb78
                  exact ⟨_, H, updL_eta ⟨rfl, rfl, bq (by rw [all_snoc hk', ← Bool.and_assoc, hb67, rLegOk, hb78]; simp), rfl, trivial⟩⟩
              ·
                refine wpO_not rfl ?_
                refine wpO_not rfl ?_
                refine wpO_not rfl ?_
                refine wpO_not rfl ?_
                refine wpO_not rfl ?_
                refine wpO_not rfl ?_
                refine wpO_not rfl ?_
                refine wpO_not rfl ?_
                refine wpO_not rfl ?_
                refine wpO_val rfl (x_pickB rfl rfl) ?_
                refine wpO_val rfl (x_moveB rfl) ?_
                refine wpO_not rfl ?_
                refine wpO_not rfl ?_
                refine wpO_not rfl ?_
                refine wpO_not rfl ?_
                refine wpO_not rfl ?_
                refine wpO_not rfl ?_
                refine wpO_not rfl ?_
                refine wpO_val rfl (x_pickB rfl rfl) ?_
                refine wpO_val rfl (x_assignB rfl) ?_
                refine wpO_nil ?_
                exact ⟨_, H, updL_eta ⟨rfl, rfl, bq (by rw [all_snoc hk', ← Bool.and_assoc, hb67]; simp), rfl, trivial⟩⟩
            · rintro f w ⟨f0, H, rfl⟩
              refine wpF_region rfl ?_   -- R6
              refine wpO_val rfl (x_moveI rfl) ?_
              refine wpO_val rfl (x_arith rfl rfl (fun _ => rfl) rfl) ?_
              refine wpO_val rfl (x_assignI rfl) ?_
              refine wpO_nil ?_
              exact ⟨legs.length - (k + 1), by omega, k + 1, _, ⟨by omega, rfl⟩, H, updL_eta ⟨rfl, rfl, rfl, vi64 (w64 (by omega) (by omega)), trivial⟩⟩
          ·
            have hkk : k = legs.length := by have h3 : ¬ (k : Int) < legs.length := (by rw [← hll]; simpa using hc63); omega
            subst hkk
            rw [List.take_length]
            refine wpF_exit ?_   -- exit 0
            refine wpF_seq ?_
            refine wpF_seq ?_
            refine wpF_region rfl ?_   -- R8
            refine wpO_val rfl (x_assignI rfl) ?_
            refine wpO_nil ?_
            refine wpF_block ?_   -- block 2
            refine wpF_loop (fun q f w => ∃ (k : Nat) (f0 : Fr), (k ≤ taxes.length ∧ q = taxes.length - k) ∧ Holds c g w ([pt b2 (.cells s.v.cells 59)] ++ F) ∧ f = updL f0 [(2, .pointer (some ⟨b2, 0, none⟩)), (5, .bool ((rShape s legs taxes && legs.all (rLegOk n)) && (taxes.take k).all rTaxOk)), (7, .int .i64 (k : Nat))]) taxes.length ?_ ?_
            · exact ⟨0, _, ⟨by omega, by omega⟩, H, updL_eta ⟨rfl, bq (by simp), rfl, trivial⟩⟩
            · rintro q f w ⟨k, f0, ⟨hk, hq⟩, H, rfl⟩
              refine wpF_seq ?_
              refine wpF_seq ?_
              refine wpF_region rfl ?_   -- R9
              refine wpO_val rfl (x_moveI rfl) ?_
              refine wpO_val rfl (x_fieldAddrN Tryz.underlying59 rfl Tryz.sizeOf57 rfl rfl) ?_
              refine wpO_val rfl (x_load0bL Tryz.isAgg57 rfl (H.getF 0 rfl) rfl) ?_
              refine wpO_val rfl (x_lenSl Tryz.underlying57 rfl) ?_
              refine wpO_val rfl (x_cmp rfl rfl rfl rfl) ?_
              refine wpO_nil ?_
              refine wpF_cond _ rfl (fun hc91 => ?_) (fun hc91 => ?_)
              ·
                have hk' : k < taxes.length := by rw [← htl]; simpa using hc91
                have hcl : taxes[k].code.length ≤ 1000000 ∨ 1000000 < taxes[k].code.length := by omega
                have hsc := str_size taxes[k].code
                refine wpF_skip ?_
                refine wpF_seq ?_
                refine wpF_block ?_   -- block 3
                refine wpF_cut (fun f w => ∃ f0, Holds c g w ([pt b2 (.cells s.v.cells 59)] ++ F) ∧ f = updL f0 [(2, .pointer (some ⟨b2, 0, none⟩)), (5, .bool ((rShape s legs taxes && legs.all (rLegOk n)) && (taxes.take (k + 1)).all rTaxOk)), (7, .int .i64 (k : Nat))]) ?_ ?_
                ·
                  refine wpF_region rfl ?_   -- R11
                  refine wpO_val rfl (x_moveB rfl) ?_
                  refine wpO_val rfl (x_moveB rfl) ?_
                  refine wpO_split 95 rfl (fun hb95 => ?_) (fun hb95 => ?_)
                  ·
                    refine wpO_val rfl (x_fieldAddrN Tryz.underlying59 rfl Tryz.sizeOf57 rfl rfl) ?_
                    refine wpO_val rfl (x_load0bL Tryz.isAgg57 rfl (H.getF 0 rfl) rfl) ?_
                    refine wpO_val rfl (x_moveI rfl) ?_
                    refine wpO_val rfl (x_indexEl hs.t Tryz.underlying57 Tryz.sizeOf158 rfl rfl (by omega) (by omega)) ?_
                    refine wpO_val rfl (x_fieldAddr Tryz.underlying158 rfl Tryz.sizeOf9 rfl) ?_
                    refine wpO_val rfl (x_loadElF (o := 0) Tryz.isAgg9 hs.t H rfl (List.getElem?_eq_getElem hk') rfl rfl) ?_
                    refine wpO_val rfl (x_lenStr Tryz.underlying9 rfl) ?_
                    refine wpO_val rfl (x_cmp rfl rfl rfl rfl) ?_
                    refine wpO_val rfl (x_pickB rfl rfl) ?_
                    refine wpO_val rfl (x_moveB rfl) ?_
                    refine wpO_split 105 rfl (fun hb105 => ?_) (fun hb105 => ?_)
                    ·
                      refine wpO_val rfl (x_fieldAddrN Tryz.underlying59 rfl Tryz.sizeOf57 rfl rfl) ?_
                      refine wpO_val rfl (x_load0bL Tryz.isAgg57 rfl (H.getF 0 rfl) rfl) ?_
                      refine wpO_val rfl (x_moveI rfl) ?_
                      refine wpO_val rfl (x_indexEl hs.t Tryz.underlying57 Tryz.sizeOf158 rfl rfl (by omega) (by omega)) ?_
                      refine wpO_val rfl (x_fieldAddr Tryz.underlying158 rfl Tryz.sizeOf9 rfl) ?_
                      refine wpO_val rfl (x_loadElF (o := 0) Tryz.isAgg9 hs.t H rfl (List.getElem?_eq_getElem hk') rfl rfl) ?_
                      have hc2 : taxes[k].code.length = 2 := by rw [hsc] at hb105; have := eq_of_beq hb105; omega
                      refine wpO_eff rfl (e_callF (vs := [strV taxes[k].code, strV []]) Tryz.call132 rfl ((rText_c taxes[k].code [] (by omega) (by decide) H).mono (Ret.mono ?_)))
                      rintro v112 w ⟨rfl, H'⟩
                      replace H := H.re H' rfl
                      refine wpO_val rfl (x_pickB rfl rfl) ?_
                      refine wpO_val rfl (x_moveB rfl) ?_
                      refine wpO_split 114 rfl (fun hb114 => ?_) (fun hb114 => ?_)
                      ·
                        refine wpO_val rfl (x_fieldAddrN Tryz.underlying59 rfl Tryz.sizeOf57 rfl rfl) ?_
                        refine wpO_val rfl (x_load0bL Tryz.isAgg57 rfl (H.getF 0 rfl) rfl) ?_
                        refine wpO_val rfl (x_moveI rfl) ?_
                        refine wpO_val rfl (x_indexEl hs.t Tryz.underlying57 Tryz.sizeOf158 rfl rfl (by omega) (by omega)) ?_
                        refine wpO_val rfl (x_fieldAddr Tryz.underlying158 rfl Tryz.sizeOf2 rfl) ?_
                        refine wpO_val rfl (x_loadElF (o := 1) Tryz.isAgg2 hs.t H rfl (List.getElem?_eq_getElem hk') rfl rfl) ?_
                        refine wpO_eff rfl (e_callF (vs := [taxes[k].amt.v]) Tryz.call133 rfl ((rAmount_c taxes[k].amt.n H).mono (Ret.mono ?_)))
                        rintro v121 w ⟨rfl, H'⟩
                        replace H := H.re H' rfl
                        refine wpO_val rfl (x_pickB rfl rfl) ?_
                        refine wpO_val rfl (x_assignB rfl) ?_
                        refine wpO_nil ?_
                        rw [hsc] at hb105
                        exact ⟨_, H, updL_eta ⟨rfl, bq (by rw [all_snoc hk', ← Bool.and_assoc, hb95, rTaxOk, hb105, hb114]; simp), rfl, trivial⟩⟩
                      ·
                        refine wpO_not rfl ?_
                        refine wpO_not rfl ?_
                        refine wpO_not rfl ?_
                        refine wpO_not rfl ?_
                        refine wpO_not rfl ?_
                        refine wpO_not rfl ?_
                        refine wpO_not rfl ?_
                        refine wpO_val rfl (x_pickB rfl rfl) ?_
                        refine wpO_val rfl (x_assignB rfl) ?_
                        refine wpO_nil ?_
                        rw [hsc] at hb105
                        exact ⟨_, H, updL_eta ⟨rfl, bq (by rw [all_snoc hk', ← Bool.and_assoc, hb95, rTaxOk, hb105, hb114]; simp), rfl, trivial⟩⟩
                    ·
                      refine wpO_not rfl ?_
                      refine wpO_not rfl ?_
                      refine wpO_not rfl ?_
                      refine wpO_not rfl ?_
                      refine wpO_not rfl ?_
                      refine wpO_not rfl ?_
                      refine wpO_not rfl ?_
                      refine wpO_val rfl (x_pickB rfl rfl) ?_
                      refine wpO_val rfl (x_moveB rfl) ?_
                      refine wpO_not rfl ?_
                      refine wpO_not rfl ?_
                      refine wpO_not rfl ?_
                      refine wpO_not rfl ?_
                      refine wpO_not rfl ?_
                      refine wpO_not rfl ?_
                      refine wpO_not rfl ?_
                      refine wpO_val rfl (x_pickB rfl rfl) ?_
                      refine wpO_val rfl (x_assignB rfl) ?_
                      refine wpO_nil ?_
                      rw [hsc] at hb105
                      exact ⟨_, H, updL_eta ⟨rfl, bq (by rw [all_snoc hk', ← Bool.and_assoc, hb95, rTaxOk, hb105]; simp), rfl, trivial⟩⟩
                  ·
                    refine wpO_not rfl ?_
                    refine wpO_not rfl ?_
                    refine wpO_not rfl ?_
                    refine wpO_not rfl ?_
                    refine wpO_not rfl ?_
                    refine wpO_not rfl ?_
                    refine wpO_not rfl ?_
                    refine wpO_not rfl ?_
                    refine wpO_val rfl (x_pickB rfl rfl) ?_
                    refine wpO_val rfl (x_moveB rfl) ?_
                    refine wpO_not rfl ?_
                    refine wpO_not rfl ?_
                    refine wpO_not rfl ?_
                    refine wpO_not rfl ?_
                    refine wpO_not rfl ?_
                    refine wpO_not rfl ?_
                    refine wpO_not rfl ?_
                    refine wpO_val rfl (x_pickB rfl rfl) ?_
                    refine wpO_val rfl (x_moveB rfl) ?_
                    refine wpO_not rfl ?_
                    refine wpO_not rfl ?_
                    refine wpO_not rfl ?_
                    refine wpO_not rfl ?_
                    refine wpO_not rfl ?_
                    refine wpO_not rfl ?_
                    refine wpO_not rfl ?_
                    refine wpO_val rfl (x_pickB rfl rfl) ?_
                    refine wpO_val rfl (x_assignB rfl) ?_
                    refine wpO_nil ?_
                    exact ⟨_, H, updL_eta ⟨rfl, bq (by rw [all_snoc hk', ← Bool.and_assoc, hb95]; simp), rfl, trivial⟩⟩
                · rintro f w ⟨f0, H, rfl⟩
                  refine wpF_region rfl ?_   -- R10
                  refine wpO_val rfl (x_moveI rfl) ?_
                  refine wpO_val rfl (x_arith rfl rfl (fun _ => rfl) rfl) ?_
                  refine wpO_val rfl (x_assignI rfl) ?_
                  refine wpO_nil ?_
                  exact ⟨taxes.length - (k + 1), by omega, k + 1, _, ⟨by omega, rfl⟩, H, updL_eta ⟨rfl, rfl, vi64 (w64 (by omega) (by omega)), trivial⟩⟩
              ·
                have hkk : k = taxes.length := by have h3 : ¬ (k : Int) < taxes.length := (by rw [← htl]; simpa using hc91); omega
                subst hkk
                rw [List.take_length]
                refine wpF_exit ?_   -- exit 2
                refine wpF_seq ?_
                refine wpF_seq ?_
                refine wpF_region rfl ?_   -- R12
                refine wpO_val rfl (x_moveB rfl) ?_
                refine wpO_val rfl (x_not rfl) ?_
                refine wpO_nil ?_
                refine wpF_cond _ rfl (fun hc124 => ?_) (fun hc124 => ?_)
                ·
                  refine wpF_seq ?_
                  refine wpF_region rfl ?_   -- R13
                  refine wpO_val rfl (x_assignI rfl) ?_
                  refine wpO_nil ?_
                  refine wpF_ret ?_
                  repeat (with_reducible first | refine thenF_r ?_ | refine inBlockF_r ?_)
                  refine end_t rfl rfl ?_   -- tmp:4
                  have hO : ¬ rOk s legs taxes n = true := by rw [rOk]; have : _ = false := (Bool.not_eq_true' _).mp hc124; rw [this]; decide
                  exact ⟨by rw [rCheck, if_neg hc0, if_neg hO]; rfl, H.sel [] 1 rfl rfl⟩
                ·
                  have hO : rOk s legs taxes n = true := by rw [rOk]; exact (Bool.not_eq_false' _).mp hc124
                  refine wpF_skip ?_
                  refine wpF_seq ?_
                  refine wpF_region rfl ?_   -- R14
                  refine wpO_val rfl (x_load1V s.v Tryz.isAgg59 Tryz.sizeOf59 rfl (H.getF 0 rfl) (by kernel_rfl) (by kernel_rfl)) ?_
                  refine wpO_eff rfl (e_callF (vs := [s.v]) Tryz.call134 rfl ((rPrice_c s hs.t ht H).mono (Ret.mono ?_)))
                  rintro v127 w ⟨rfl, H'⟩
                  replace H := H.re H' rfl
                  refine wpO_val rfl (x_moveT rfl) ?_
                  refine wpO_val rfl (x_extractI rfl rfl) ?_
                  refine wpO_val rfl (x_extractI rfl rfl) ?_
                  refine wpO_val rfl (x_assignI rfl) ?_
                  refine wpO_val rfl (x_assignI rfl) ?_
                  refine wpO_nil ?_
                  refine wpF_seq ?_
                  refine wpF_region rfl ?_   -- R15
                  refine wpO_val rfl (x_moveI rfl) ?_
                  refine wpO_val rfl (x_assignI rfl) ?_
                  refine wpO_nil ?_
                  refine wpF_ret ?_
                  repeat (with_reducible first | refine thenF_r ?_ | refine inBlockF_r ?_)
                  refine end_t rfl rfl ?_   -- tmp:4
                  exact ⟨by rw [rCheck, if_neg hc0, if_pos hO]; rfl, H.sel [] 1 rfl rfl⟩
-- >> rCheck_c
def rMakeErr (t : Ticket) (s : SaleP) (legs : List Leg) (taxes : List Tax) (n : Int) : Int :=
  if ((decide (n < 2) || decide (n > 8)) || !rTicket t n) = true then 1 else rCheck s legs taxes n
theorem rsumFrom_err : ∀ (l : List Int) (a : Int), (rsumFrom a l).2 = 0 ∨ (rsumFrom a l).2 = 7
  | [], a => .inl rfl
  | x :: r, a => by
    unfold rsumFrom
    split
    · exact rsumFrom_err r _
    · exact .inr rfl
theorem rCheck_ok {s : SaleP} {legs : List Leg} {taxes : List Tax} {n : Int} (h : rCheck s legs taxes n = 0) : (1 ≤ legs.length ∧ legs.length ≤ 4) ∧ (0 ≤ s.fare.n ∧ s.fare.n ≤ 1125899906842624) ∧ ∀ l ∈ legs, 1 ≤ l.wt.n := by
  unfold rCheck at h
  split at h
  · omega
  · split at h
    · rename_i h1 h2
      unfold rOk rShape at h2
      simp only [Bool.and_eq_true, decide_eq_true_eq] at h2
      obtain ⟨⟨⟨⟨⟨⟨⟨⟨_, _⟩, _⟩, h3⟩, h4⟩, h5⟩, _⟩, _⟩, h6⟩ := h2.1
      unfold ramount at h5
      simp only [Bool.and_eq_true, decide_eq_true_eq] at h5
      have h7 := inM_iff.1 h5.2
      refine ⟨by omega, by omega, fun l hl => ?_⟩
      have := List.all_eq_true.1 h6 l hl
      unfold rLegOk at this
      simp only [Bool.and_eq_true, decide_eq_true_eq] at this
      omega
    · omega

-- << rMake_c
theorem rMake_c {c : Cx} {g : Heap} {w : World} {F : List Asn} (t : Ticket) (s : SaleP) (legs : List Leg) (taxes : List Tax) (n : Int) (hs : SaleR g s legs taxes) (hn : s.name.length ≤ 1000) (hl : legs.length ≤ 1000) (ht : taxes.length ≤ 1000) (H : Holds c g w F) :
    Calls Tryz.prog 70 #[t.v, s.v, .int .i64 n] w (Ret fun v w' => ∃ g', Le g g' ∧ Holds c g' w' F ∧
      ((rMakeErr t s legs taxes n ≠ 0 ∧ v = .tuple #[DocP.zero.v, .int .i64 (rMakeErr t s legs taxes n)]) ∨
       (rMakeErr t s legs taxes n = 0 ∧ ∃ (sv : Sl) (vals : List Int), v = .tuple #[DocP.v { DocP.zero with t := t, s := s, vals := sv, paid := s.fare }, .int .i64 0] ∧ SlR g' encI 1 sv vals ∧ RVals s.fare.n (legs.map fun l => l.wt.n) vals ∧ vals.length = legs.length))) := by
  have H : Holds c g w ([] ++ F) := H
  have hll := hs.l.len
  -- tarmac/tarmacref09.Make  (function 70; params ['25', '59', '3']; results cell:6 62 tmp:7; ntmps 63)
  refine calls_of_wpF Tryz.func70 rfl Tryz.ntmps70 rfl ?_
  refine wpF_seq ?_
  refine wpF_region rfl ?_   -- R0
  refine wpO_eff rfl (e_boxA H rfl fun b3 w H => ?_)
  refine wpO_eff rfl (e_boxA H rfl fun b4 w H => ?_)
  refine wpO_eff rfl (e_alloc H Tryz.zeroValue62 fun b6 w H => ?_)
  refine wpO_val rfl (x_assignI rfl) ?_
  refine wpO_nil ?_
  refine wpF_seq ?_
  refine wpF_seq ?_
  refine wpF_cut (fun f w => ∃ f0, Holds c g w ([pt b3 (.cells t.v.cells 25), pt b4 (.cells s.v.cells 59), pt b6 (.cells DocP.zero.v.cells 62)] ++ F) ∧ f = updL f0 [(2, .int .i64 n), (3, .pointer (some ⟨b3, 0, none⟩)), (4, .pointer (some ⟨b4, 0, none⟩)), (6, .pointer (some ⟨b6, 0, none⟩)), (24, .bool ((decide (n < 2) || decide (n > 8)) || !rTicket t n))]) ?_ ?_   -- join R1
  ·
    refine wpF_region rfl ?_   -- R1
    refine wpO_val rfl (x_moveI rfl) ?_
    refine wpO_val rfl (x_cmp rfl rfl rfl rfl) ?_
    refine wpO_val rfl (x_moveB rfl) ?_
    refine wpO_split 15 rfl (fun hb15 => ?_) (fun hb15 => ?_)
    ·
      refine wpO_not rfl ?_
      refine wpO_not rfl ?_
      refine wpO_val rfl (x_pickB rfl rfl) ?_
      refine wpO_val rfl (x_moveB rfl) ?_
      refine wpO_not rfl ?_
      refine wpO_not rfl ?_
      refine wpO_not rfl ?_
      refine wpO_not rfl ?_
      refine wpO_val rfl (x_pickB rfl rfl) ?_
      refine wpO_nil ?_
      exact ⟨_, H, updL_eta ⟨rfl, rfl, rfl, rfl, bq (by rw [hb15]; rfl), trivial⟩⟩
    ·
      refine wpO_val rfl (x_moveI rfl) ?_
      refine wpO_val rfl (x_cmp rfl rfl rfl rfl) ?_
      refine wpO_val rfl (x_pickB rfl rfl) ?_
      refine wpO_val rfl (x_moveB rfl) ?_
      refine wpO_split 19 rfl (fun hb19 => ?_) (fun hb19 => ?_)
      ·
        refine wpO_not rfl ?_
        refine wpO_not rfl ?_
        refine wpO_not rfl ?_
        refine wpO_not rfl ?_
        refine wpO_val rfl (x_pickB rfl rfl) ?_
        refine wpO_nil ?_
        exact ⟨_, H, updL_eta ⟨rfl, rfl, rfl, rfl, bq (by rw [hb15, hb19]; rfl), trivial⟩⟩
      ·
        refine wpO_val rfl (x_load1V t.v Tryz.isAgg25 Tryz.sizeOf25 rfl (H.getF 0 rfl) (by kernel_rfl) (by kernel_rfl)) ?_
        refine wpO_val rfl (x_moveI rfl) ?_
        refine wpO_eff rfl (e_callF (vs := [t.v, .int .i64 n]) Tryz.call75 rfl ((rTicket_c t n H).mono (Ret.mono ?_)))
        rintro v22 w ⟨rfl, H'⟩
        replace H := H.re H' rfl
        refine wpO_val rfl (x_not rfl) ?_
        refine wpO_val rfl (x_pickB rfl rfl) ?_
        refine wpO_nil ?_
        exact ⟨_, H, updL_eta ⟨rfl, rfl, rfl, rfl, bq (by rw [hb15, hb19]; rfl), trivial⟩⟩
  · rintro f w ⟨f0, H, rfl⟩
    refine wpF_cond _ rfl (fun hc24 => ?_) (fun hc24 => ?_)
    ·
      refine wpF_seq ?_
      refine wpF_region rfl ?_   -- R2
      refine wpO_val rfl (x_buildSt stDoc [] rfl (cs := (DocP.zero.v).cells) (by kernel_rfl)) ?_
      refine wpO_eff0 rfl (e_storeAll (v := DocP.zero.v) H 2 rfl Tryz.sizeOf62 rfl rfl rfl rfl (by kernel_rfl) fun w H => ?_)
      refine wpO_val rfl (x_assignI rfl) ?_
      refine wpO_nil ?_
      refine wpF_ret ?_
      repeat (with_reducible first | refine thenF_r ?_ | refine inBlockF_r ?_)
      refine end_ct rfl rfl rfl Tryz.isAgg62 Tryz.sizeOf62 (H.getF 2 rfl) rfl ?_   -- cell:6 62 tmp:7
      have hE : rMakeErr t s legs taxes n = 1 := by rw [rMakeErr, if_pos hc24]
      exact ⟨g, Le.refl g, H.sel [] 3 rfl rfl, .inl ⟨by rw [hE]; decide, by rw [hE]; rfl⟩⟩
    ·
      have hE : rMakeErr t s legs taxes n = rCheck s legs taxes n := by rw [rMakeErr, if_neg (by rw [hc24]; decide)]
      refine wpF_skip ?_
      refine wpF_seq ?_
      refine wpF_region rfl ?_   -- R3
      refine wpO_val rfl (x_load1V s.v Tryz.isAgg59 Tryz.sizeOf59 rfl (H.getF 1 rfl) (by kernel_rfl) (by kernel_rfl)) ?_
      refine wpO_val rfl (x_moveI rfl) ?_
      refine wpO_eff rfl (e_callF (vs := [s.v, .int .i64 n]) Tryz.call106 rfl ((rCheck_c s legs taxes n hs hn hl ht H).mono (Ret.mono ?_)))
      rintro v28 w ⟨rfl, H'⟩
      replace H := H.re H' rfl
      refine wpO_val rfl (x_assignI rfl) ?_
      refine wpO_nil ?_
      refine wpF_seq ?_
      refine wpF_seq ?_
      refine wpF_region rfl ?_   -- R4
      refine wpO_val rfl (x_moveI rfl) ?_
      refine wpO_val rfl (x_cmp rfl rfl rfl rfl) ?_
      refine wpO_nil ?_
      refine wpF_cond _ rfl (fun hc30 => ?_) (fun hc30 => ?_)
      ·
        refine wpF_seq ?_
        refine wpF_region rfl ?_   -- R5
        refine wpO_val rfl (x_buildSt stDoc [] rfl (cs := (DocP.zero.v).cells) (by kernel_rfl)) ?_
        refine wpO_val rfl (x_moveI rfl) ?_
        refine wpO_eff0 rfl (e_storeAll (v := DocP.zero.v) H 2 rfl Tryz.sizeOf62 rfl rfl rfl rfl (by kernel_rfl) fun w H => ?_)
        refine wpO_val rfl (x_assignI rfl) ?_
        refine wpO_nil ?_
        refine wpF_ret ?_
        repeat (with_reducible first | refine thenF_r ?_ | refine inBlockF_r ?_)
        refine end_ct rfl rfl rfl Tryz.isAgg62 Tryz.sizeOf62 (H.getF 2 rfl) rfl ?_   -- cell:6 62 tmp:7
        have h0 : rCheck s legs taxes n ≠ 0 := by simpa using hc30
        exact ⟨g, Le.refl g, H.sel [] 3 rfl rfl, .inl ⟨by rw [hE]; exact h0, by rw [hE]; rfl⟩⟩
      ·
        have h0 : rCheck s legs taxes n = 0 := by simpa using hc30
        obtain ⟨hlb, hfb, hwb⟩ := rCheck_ok h0
        have H := H.nilRowAt (E := 29) (m := 1)
        refine wpF_skip ?_
        refine wpF_seq ?_
        refine wpF_region rfl ?_   -- R6
        refine wpO_val rfl (x_assignL rfl) ?_
        refine wpO_nil ?_
        refine wpF_seq ?_
        refine wpF_seq ?_
        refine wpF_region rfl ?_   -- R7
        refine wpO_val rfl (x_assignI rfl) ?_
        refine wpO_nil ?_
        refine wpF_block ?_   -- block 0
        refine wpF_loop (fun q f w => ∃ (k : Nat) (s9 : Sl) (f0 : Fr), (k ≤ legs.length ∧ q = legs.length - k ∧ s9.len = k) ∧ Holds c g w (([pt b3 (.cells t.v.cells 25), pt b4 (.cells s.v.cells 59), pt b6 (.cells DocP.zero.v.cells 62)] ++ [rowE 29 (IK.v (k := .u32)) 1 s9 ((legs.take k).map fun l => l.wt)]) ++ F) ∧ f = updL f0 [(3, .pointer (some ⟨b3, 0, none⟩)), (4, .pointer (some ⟨b4, 0, none⟩)), (6, .pointer (some ⟨b6, 0, none⟩)), (9, s9.v), (10, .int .i64 (k : Nat))]) legs.length ?_ ?_
        · exact ⟨0, Sl.nil, _, ⟨by omega, by omega, rfl⟩, H, updL_eta ⟨rfl, rfl, rfl, rfl, rfl, trivial⟩⟩
        · rintro q f w ⟨k, s9, f0, ⟨hk, hq, hl9⟩, H, rfl⟩
          refine wpF_seq ?_
          refine wpF_seq ?_
          refine wpF_region rfl ?_   -- R8
          refine wpO_val rfl (x_moveI rfl) ?_
          refine wpO_val rfl (x_fieldAddrN Tryz.underlying59 rfl Tryz.sizeOf56 rfl rfl) ?_
          refine wpO_val rfl (x_load0bL Tryz.isAgg56 rfl (H.getF 1 rfl) rfl) ?_
          refine wpO_val rfl (x_lenSl Tryz.underlying56 rfl) ?_
          refine wpO_val rfl (x_cmp rfl rfl rfl rfl) ?_
          refine wpO_nil ?_
          refine wpF_cond _ rfl (fun hc37 => ?_) (fun hc37 => ?_)
          ·
            have hk' : k < legs.length := by rw [← hll]; simpa using hc37
            refine wpF_skip ?_
            refine wpF_seq ?_
            refine wpF_block ?_   -- block 1
            refine wpF_region rfl ?_   -- R10
            refine wpO_val rfl (x_moveL rfl) ?_
            refine wpO_val rfl (x_fieldAddrN Tryz.underlying59 rfl Tryz.sizeOf56 rfl rfl) ?_
            refine wpO_val rfl (x_load0bL Tryz.isAgg56 rfl (H.getF 1 rfl) rfl) ?_
            refine wpO_val rfl (x_moveI rfl) ?_
            refine wpO_val rfl (x_indexEl hs.l Tryz.underlying56 Tryz.sizeOf31 rfl rfl (by omega) (by omega)) ?_
            refine wpO_val rfl (x_fieldAddr Tryz.underlying31 rfl Tryz.sizeOf29 rfl) ?_
            refine wpO_val rfl (x_loadElF (o := 2) Tryz.isAgg29 hs.l H rfl (List.getElem?_eq_getElem hk') rfl rfl) ?_
            refine wpO_eff rfl (e_buildSlice H Tryz.underlying171 Tryz.sizeOf29 Tryz.zeroValue29 rfl rfl (vs := [legs[k].wt.v]) rfl rfl (cs := [legs[k].wt.v]) rfl fun b47 w H => ?_)
            refine wpO_eff rfl (e_append1 (enc := IK.v (k := .u32)) legs[k].wt H 3 4 rfl rfl Tryz.underlying171 isuint32 rfl rfl rfl rfl (by omega) (by omega) fun s48 w hs48 hn48 H => ?_)
            refine wpO_val rfl (x_assignL rfl) ?_
            refine wpO_nil ?_
            refine wpF_region rfl ?_   -- R9
            refine wpO_val rfl (x_moveI rfl) ?_
            refine wpO_val rfl (x_arith rfl rfl (fun _ => rfl) rfl) ?_
            refine wpO_val rfl (x_assignI rfl) ?_
            refine wpO_nil ?_
            have H : Holds c g w (([pt b3 (.cells t.v.cells 25), pt b4 (.cells s.v.cells 59), pt b6 (.cells DocP.zero.v.cells 62)] ++ [rowE 29 (IK.v (k := .u32)) 1 s48 ((legs.take (k + 1)).map fun l => l.wt)]) ++ F) := by
              rw [List.take_succ_eq_append_getElem hk', List.map_append]
              exact H.sel [0, 1, 2, 3] 5 rfl rfl
            exact ⟨legs.length - (k + 1), by omega, k + 1, s48, _, ⟨by omega, rfl, by omega⟩, H, updL_eta ⟨rfl, rfl, rfl, rfl, vi64 (w64 (by omega) (by omega)), trivial⟩⟩
          ·
            have hkk : k = legs.length := by have h3 : ¬ (k : Int) < legs.length := (by rw [← hll]; simpa using hc37); omega
            subst hkk
            rw [List.take_length] at H
            obtain ⟨g2, hle2, H, hr⟩ := Holds.sealRow (enc := IK.v (k := .u32)) (xs := legs.map fun l => l.wt) (show Holds c g w (rowA 29 1 s9 (flat (IK.v (k := .u32)) (legs.map fun l => l.wt)) :: ([pt b3 (.cells t.v.cells 25), pt b4 (.cells s.v.cells 59), pt b6 (.cells DocP.zero.v.cells 62)] ++ F)) from H.sel [3, 0, 1, 2] 4 rfl rfl) rfl (fun _ _ => rfl) (by decide)
            refine wpF_exit ?_   -- exit 0
            refine wpF_seq ?_
            refine wpF_region rfl ?_   -- R11
            refine wpO_val rfl (x_fieldAddrN Tryz.underlying59 rfl Tryz.sizeOf2 rfl rfl) ?_
            refine wpO_val rfl (x_load0bI Tryz.isAgg2 rfl (H.getF 1 rfl) rfl) ?_
            refine wpO_val rfl (x_moveL rfl) ?_
            refine wpO_eff rfl (e_callF (vs := [s.fare.v, s9.v]) Tryz.call107 rfl ((rShare_c s.fare.n hfb hr (by simp; omega) (by simp; omega) (fun x hx => by obtain ⟨l, hl, rfl⟩ := List.mem_map.1 hx; exact hwb l hl) H).mono (Ret.mono ?_)))
            rintro v53 w ⟨sv, g3, vals, rfl, hv, hle3, hsv, hvl, H⟩
            refine wpO_val rfl (x_moveT rfl) ?_
            refine wpO_val rfl (x_extractL rfl rfl) ?_
            refine wpO_val rfl (x_extractI rfl rfl) ?_
            refine wpO_val rfl (x_assignL rfl) ?_
            refine wpO_val rfl (x_assignI rfl) ?_
            refine wpO_nil ?_
            refine wpF_seq ?_
            refine wpF_region rfl ?_   -- R12
            refine wpO_val rfl (x_load1V t.v Tryz.isAgg25 Tryz.sizeOf25 rfl (H.getF 0 rfl) (by kernel_rfl) (by kernel_rfl)) ?_
            refine wpO_val rfl (x_load1V s.v Tryz.isAgg59 Tryz.sizeOf59 rfl (H.getF 1 rfl) (by kernel_rfl) (by kernel_rfl)) ?_
            refine wpO_val rfl (x_moveL rfl) ?_
            refine wpO_val rfl (x_fieldAddrN Tryz.underlying59 rfl Tryz.sizeOf2 rfl rfl) ?_
            refine wpO_val rfl (x_load0bI Tryz.isAgg2 rfl (H.getF 1 rfl) rfl) ?_
            refine wpO_val rfl (x_buildSt stDoc [t.v, s.v, sv.v, s.fare.v] rfl (cs := (DocP.v { DocP.zero with t := t, s := s, vals := sv, paid := s.fare }).cells) (by kernel_rfl)) ?_
            refine wpO_val rfl (x_moveI rfl) ?_
            refine wpO_eff0 rfl (e_storeAll (v := DocP.v { DocP.zero with t := t, s := s, vals := sv, paid := s.fare }) H 2 rfl Tryz.sizeOf62 rfl rfl rfl rfl (by kernel_rfl) fun w H => ?_)
            refine wpO_val rfl (x_assignI rfl) ?_
            refine wpO_nil ?_
            refine wpF_ret ?_
            repeat (with_reducible first | refine thenF_r ?_ | refine inBlockF_r ?_)
            refine end_ct rfl rfl rfl Tryz.isAgg62 Tryz.sizeOf62 (H.getF 2 rfl) rfl ?_   -- cell:6 62 tmp:7
            rw [List.map_map] at hv
            exact ⟨g3, hle2.trans hle3, H.sel [] 3 rfl rfl, .inr ⟨by rw [hE]; exact h0, sv, vals, rfl, hsv, hv, by rw [hvl, List.length_map]⟩⟩
-- >> rMake_c
end Go.Proofs.YtfoginganpgmcaaGreat
