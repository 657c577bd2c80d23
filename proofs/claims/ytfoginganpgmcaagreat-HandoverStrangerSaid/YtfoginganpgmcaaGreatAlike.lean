/- book.alike: documents, compared. -/
import Derived.Test.YtfoginganpgmcaaGreatSame
import Derived.ChangeKeysEq
set_option linter.unusedSimpArgs false
set_option linter.unusedVariables false
namespace Go.Proofs.YtfoginganpgmcaaGreat
open Go Go.Tw
set_option maxRecDepth 100000

structure A5 where
  a : IK .i64
  b : IK .i64
  c : IK .i64
  d : IK .i64
  e : IK .i64
  deriving DecidableEq
def A5.v (x : A5) : Value := .agg #[x.a.v, x.b.v, x.c.v, x.d.v, x.e.v]
theorem eqInA5 (d : Nat) (a b : A5) (w : World) : (Op.equalIn (d + 2) 167 a.v b.v).run Tryz.prog w = .ok (decide (a = b)) w := by
  have e : d + 2 = (d + 1) + 1 := rfl
  rw [e]
  unfold A5.v
  rw [run_equalIn_array (P := Tryz.prog) w (d + 1) _ _ Tryz.underlying167 (i := Tryz.t2) (by kernel_rfl)]
  have hc : Tryz.prog.cellsOf 2 = 1 := by kernel_rfl
  rw [hc, show List.range 5 = [0, 1, 2, 3, 4] from rfl]
  simp [Op.eqItems, part, equalIn_int]
  obtain ⟨a1, a2, a3, a4, a5⟩ := a
  obtain ⟨b1, b2, b3, b4, b5⟩ := b
  by_cases h1 : a1 = b1 <;> by_cases h2 : a2 = b2 <;> by_cases h3 : a3 = b3 <;> by_cases h4 : a4 = b4 <;> by_cases h5 : a5 = b5 <;> simp [h1, h2, h3, h4, h5]
theorem eqA5 : EqLaw Tryz.prog 167 A5.v := fun a b w => eqInA5 9998 a b w

def docA5 (d : DocP) : A5 := ⟨d.credit, d.paid, d.back, d.kept, d.left⟩
/-- Are two documents alike? -/
def sameDoc (d d2 : DocP) (legs legs2 : List Leg) (taxes taxes2 : List Tax) (vals vals2 : List Int) : Bool :=
  sameSale d.s d2.s legs legs2 taxes taxes2 && decide (vals = vals2) && decide (d.t = d2.t) && decide (d.fr = d2.fr) && decide (d.to = d2.to) && decide ((docA5 d) = (docA5 d2))

-- << alike_c
theorem alike_c {c : Cx} {g : Heap} {w : World} {F : List Asn} (d d2 : DocP) {legs legs2 : List Leg} {taxes taxes2 : List Tax} {vals vals2 : List Int} (hd : DocR g d legs taxes vals) (hd2 : DocR g d2 legs2 taxes2 vals2) (hl : legs.length ≤ 1000) (ht : taxes.length ≤ 1000) (hv : vals.length ≤ 1000) (H : Holds c g w F) :
    Calls Tryz.prog 53 #[d.v, d2.v] w (Ret fun v w' => v = .bool (sameDoc d d2 legs legs2 taxes taxes2 vals vals2) ∧ Holds c g w' F) := by
  have H : Holds c g w ([] ++ F) := H
  -- tarmac/book.alike  (function 83; params ['62', '62']; results tmp:4; ntmps 63)
  refine calls_of_wpF Tryz.func53 rfl Tryz.ntmps53 rfl ?_
  refine wpF_seq ?_
  refine wpF_region rfl ?_   -- R0
  refine wpO_eff rfl (e_boxA H rfl fun b2 w H => ?_)
  refine wpO_eff rfl (e_boxA H rfl fun b3 w H => ?_)
  refine wpO_val rfl (x_assignB rfl) ?_
  refine wpO_nil ?_
  refine wpF_seq ?_
  refine wpF_region rfl ?_   -- R1
  refine wpO_val rfl (x_fieldAddrN Tryz.underlying62 rfl Tryz.sizeOf59 rfl rfl) ?_
  refine wpO_val rfl (x_load1V d.s.v Tryz.isAgg59 Tryz.sizeOf59 rfl (H.getF 0 rfl) rfl rfl) ?_
  refine wpO_val rfl (x_fieldAddrN Tryz.underlying62 rfl Tryz.sizeOf59 rfl rfl) ?_
  refine wpO_val rfl (x_load1V d2.s.v Tryz.isAgg59 Tryz.sizeOf59 rfl (H.getF 1 rfl) rfl rfl) ?_
  refine wpO_eff rfl (e_callF (vs := [d.s.v, d2.s.v]) Tryz.call93 rfl ((same_c d.s d2.s hd.s hd2.s hl ht H).mono (Ret.mono ?_)))
  rintro v9 w ⟨rfl, H'⟩
  replace H := H.re H' rfl
  refine wpO_val rfl (x_moveB rfl) ?_
  refine wpO_split 10 rfl (fun hb10 => ?_) (fun hb10 => ?_)
  ·
    refine wpO_val rfl (x_fieldAddrN Tryz.underlying62 rfl Tryz.sizeOf60 rfl rfl) ?_
    refine wpO_val rfl (x_load0bL Tryz.isAgg60 rfl (H.getF 0 rfl) rfl) ?_
    refine wpO_val rfl (x_fieldAddrN Tryz.underlying62 rfl Tryz.sizeOf60 rfl rfl) ?_
    refine wpO_val rfl (x_load0bL Tryz.isAgg60 rfl (H.getF 1 rfl) rfl) ?_
    refine wpO_eff rfl (e_callF (vs := [d.vals.v, d2.vals.v]) Tryz.call94 rfl ((equalInt_c hd.v hd2.v (by omega) H).mono (Ret.mono ?_)))
    rintro v15 w ⟨rfl, H'⟩
    replace H := H.re H' rfl
    refine wpO_val rfl (x_pickB rfl rfl) ?_
    refine wpO_val rfl (x_moveB rfl) ?_
    refine wpO_split 17 rfl (fun hb17 => ?_) (fun hb17 => ?_)
    ·
      refine wpO_val rfl (x_fieldAddrN Tryz.underlying62 rfl Tryz.sizeOf25 rfl rfl) ?_
      refine wpO_val rfl (x_load1V d.t.v Tryz.isAgg25 Tryz.sizeOf25 rfl (H.getF 0 rfl) rfl rfl) ?_
      refine wpO_val rfl (x_fieldAddrN Tryz.underlying62 rfl Tryz.sizeOf25 rfl rfl) ?_
      refine wpO_val rfl (x_load1V d2.t.v Tryz.isAgg25 Tryz.sizeOf25 rfl (H.getF 1 rfl) rfl rfl) ?_
      refine wpO_val rfl (x_eqlE (a := d.t) (b := d2.t) eqTicket (by kernel_rfl) rfl rfl rfl rfl) ?_
      refine wpO_val rfl (x_pickB rfl rfl) ?_
      refine wpO_val rfl (x_moveB rfl) ?_
      refine wpO_split 24 rfl (fun hb24 => ?_) (fun hb24 => ?_)
      ·
        refine wpO_val rfl (x_fieldAddrN Tryz.underlying62 rfl Tryz.sizeOf25 rfl rfl) ?_
        refine wpO_val rfl (x_load1V d.fr.v Tryz.isAgg25 Tryz.sizeOf25 rfl (H.getF 0 rfl) rfl rfl) ?_
        refine wpO_val rfl (x_fieldAddrN Tryz.underlying62 rfl Tryz.sizeOf25 rfl rfl) ?_
        refine wpO_val rfl (x_load1V d2.fr.v Tryz.isAgg25 Tryz.sizeOf25 rfl (H.getF 1 rfl) rfl rfl) ?_
        refine wpO_val rfl (x_eqlE (a := d.fr) (b := d2.fr) eqTicket (by kernel_rfl) rfl rfl rfl rfl) ?_
        refine wpO_val rfl (x_pickB rfl rfl) ?_
        refine wpO_val rfl (x_moveB rfl) ?_
        refine wpO_split 31 rfl (fun hb31 => ?_) (fun hb31 => ?_)
        ·
          refine wpO_val rfl (x_fieldAddrN Tryz.underlying62 rfl Tryz.sizeOf25 rfl rfl) ?_
          refine wpO_val rfl (x_load1V d.to.v Tryz.isAgg25 Tryz.sizeOf25 rfl (H.getF 0 rfl) rfl rfl) ?_
          refine wpO_val rfl (x_fieldAddrN Tryz.underlying62 rfl Tryz.sizeOf25 rfl rfl) ?_
          refine wpO_val rfl (x_load1V d2.to.v Tryz.isAgg25 Tryz.sizeOf25 rfl (H.getF 1 rfl) rfl rfl) ?_
          refine wpO_val rfl (x_eqlE (a := d.to) (b := d2.to) eqTicket (by kernel_rfl) rfl rfl rfl rfl) ?_
          refine wpO_val rfl (x_pickB rfl rfl) ?_
          refine wpO_val rfl (x_moveB rfl) ?_
          refine wpO_split 38 rfl (fun hb38 => ?_) (fun hb38 => ?_)
          ·
            refine wpO_val rfl (x_fieldAddrN Tryz.underlying62 rfl Tryz.sizeOf2 rfl rfl) ?_
            refine wpO_val rfl (x_load0bI Tryz.isAgg2 rfl (H.getF 0 rfl) rfl) ?_
            refine wpO_val rfl (x_fieldAddrN Tryz.underlying62 rfl Tryz.sizeOf2 rfl rfl) ?_
            refine wpO_val rfl (x_load0bI Tryz.isAgg2 rfl (H.getF 0 rfl) rfl) ?_
            refine wpO_val rfl (x_fieldAddrN Tryz.underlying62 rfl Tryz.sizeOf2 rfl rfl) ?_
            refine wpO_val rfl (x_load0bI Tryz.isAgg2 rfl (H.getF 0 rfl) rfl) ?_
            refine wpO_val rfl (x_fieldAddrN Tryz.underlying62 rfl Tryz.sizeOf2 rfl rfl) ?_
            refine wpO_val rfl (x_load0bI Tryz.isAgg2 rfl (H.getF 0 rfl) rfl) ?_
            refine wpO_val rfl (x_fieldAddrN Tryz.underlying62 rfl Tryz.sizeOf2 rfl rfl) ?_
            refine wpO_val rfl (x_load0bI Tryz.isAgg2 rfl (H.getF 0 rfl) rfl) ?_
            refine wpO_val rfl (x_buildArr Tryz.underlying167 Tryz.sizeOf2 Tryz.zeroValue167 rfl rfl (vs := [d.credit.v, d.paid.v, d.back.v, d.kept.v, d.left.v]) rfl rfl) ?_
            refine wpO_val rfl (x_fieldAddrN Tryz.underlying62 rfl Tryz.sizeOf2 rfl rfl) ?_
            refine wpO_val rfl (x_load0bI Tryz.isAgg2 rfl (H.getF 1 rfl) rfl) ?_
            refine wpO_val rfl (x_fieldAddrN Tryz.underlying62 rfl Tryz.sizeOf2 rfl rfl) ?_
            refine wpO_val rfl (x_load0bI Tryz.isAgg2 rfl (H.getF 1 rfl) rfl) ?_
            refine wpO_val rfl (x_fieldAddrN Tryz.underlying62 rfl Tryz.sizeOf2 rfl rfl) ?_
            refine wpO_val rfl (x_load0bI Tryz.isAgg2 rfl (H.getF 1 rfl) rfl) ?_
            refine wpO_val rfl (x_fieldAddrN Tryz.underlying62 rfl Tryz.sizeOf2 rfl rfl) ?_
            refine wpO_val rfl (x_load0bI Tryz.isAgg2 rfl (H.getF 1 rfl) rfl) ?_
            refine wpO_val rfl (x_fieldAddrN Tryz.underlying62 rfl Tryz.sizeOf2 rfl rfl) ?_
            refine wpO_val rfl (x_load0bI Tryz.isAgg2 rfl (H.getF 1 rfl) rfl) ?_
            refine wpO_val rfl (x_buildArr Tryz.underlying167 Tryz.sizeOf2 Tryz.zeroValue167 rfl rfl (vs := [d2.credit.v, d2.paid.v, d2.back.v, d2.kept.v, d2.left.v]) rfl rfl) ?_
            refine wpO_val rfl (x_eqlE (a := (docA5 d)) (b := (docA5 d2)) eqA5 (by kernel_rfl) rfl rfl rfl rfl) ?_
            refine wpO_val rfl (x_pickB rfl rfl) ?_
            refine wpO_val rfl (x_assignB rfl) ?_
            refine wpO_nil ?_
            refine wpF_ret ?_
            repeat (with_reducible first | refine thenF_r ?_ | refine inBlockF_r ?_)
            refine end_t rfl rfl ?_   -- tmp:4
            exact ⟨bq (show sameDoc d d2 legs legs2 taxes taxes2 vals vals2 = decide ((docA5 d) = (docA5 d2)) by unfold sameDoc; rw [hb10, hb17, hb24, hb31, hb38]; simp), H.sel [] 2 rfl rfl⟩
          ·
            refine wpO_not rfl ?_
            refine wpO_not rfl ?_
            refine wpO_not rfl ?_
            refine wpO_not rfl ?_
            refine wpO_not rfl ?_
            refine wpO_not rfl ?_
            refine wpO_not rfl ?_
            refine wpO_not rfl ?_
            refine wpO_not rfl ?_
            refine wpO_not rfl ?_
            refine wpO_not rfl ?_
            refine wpO_not rfl ?_
            refine wpO_not rfl ?_
            refine wpO_not rfl ?_
            refine wpO_not rfl ?_
            refine wpO_not rfl ?_
            refine wpO_not rfl ?_
            refine wpO_not rfl ?_
            refine wpO_not rfl ?_
            refine wpO_not rfl ?_
            refine wpO_not rfl ?_
            refine wpO_not rfl ?_
            refine wpO_not rfl ?_
            refine wpO_val rfl (x_pickB rfl rfl) ?_
            refine wpO_val rfl (x_assignB rfl) ?_
            refine wpO_nil ?_
            refine wpF_ret ?_
            repeat (with_reducible first | refine thenF_r ?_ | refine inBlockF_r ?_)
            refine end_t rfl rfl ?_   -- tmp:4
            exact ⟨bq (show sameDoc d d2 legs legs2 taxes taxes2 vals vals2 = false by unfold sameDoc; rw [hb38]; simp), H.sel [] 2 rfl rfl⟩
        ·
          refine wpO_not rfl ?_
          refine wpO_not rfl ?_
          refine wpO_not rfl ?_
          refine wpO_not rfl ?_
          refine wpO_not rfl ?_
          refine wpO_val rfl (x_pickB rfl rfl) ?_
          refine wpO_val rfl (x_moveB rfl) ?_
          refine wpO_not rfl ?_
          refine wpO_not rfl ?_
          refine wpO_not rfl ?_
          refine wpO_not rfl ?_
          refine wpO_not rfl ?_
          refine wpO_not rfl ?_
          refine wpO_not rfl ?_
          refine wpO_not rfl ?_
          refine wpO_not rfl ?_
          refine wpO_not rfl ?_
          refine wpO_not rfl ?_
          refine wpO_not rfl ?_
          refine wpO_not rfl ?_
          refine wpO_not rfl ?_
          refine wpO_not rfl ?_
          refine wpO_not rfl ?_
          refine wpO_not rfl ?_
          refine wpO_not rfl ?_
          refine wpO_not rfl ?_
          refine wpO_not rfl ?_
          refine wpO_not rfl ?_
          refine wpO_not rfl ?_
          refine wpO_not rfl ?_
          refine wpO_val rfl (x_pickB rfl rfl) ?_
          refine wpO_val rfl (x_assignB rfl) ?_
          refine wpO_nil ?_
          refine wpF_ret ?_
          repeat (with_reducible first | refine thenF_r ?_ | refine inBlockF_r ?_)
          refine end_t rfl rfl ?_   -- tmp:4
          exact ⟨bq (show sameDoc d d2 legs legs2 taxes taxes2 vals vals2 = false by unfold sameDoc; rw [hb31]; simp), H.sel [] 2 rfl rfl⟩
      ·
        refine wpO_not rfl ?_
        refine wpO_not rfl ?_
        refine wpO_not rfl ?_
        refine wpO_not rfl ?_
        refine wpO_not rfl ?_
        refine wpO_val rfl (x_pickB rfl rfl) ?_
        refine wpO_val rfl (x_moveB rfl) ?_
        refine wpO_not rfl ?_
        refine wpO_not rfl ?_
        refine wpO_not rfl ?_
        refine wpO_not rfl ?_
        refine wpO_not rfl ?_
        refine wpO_val rfl (x_pickB rfl rfl) ?_
        refine wpO_val rfl (x_moveB rfl) ?_
        refine wpO_not rfl ?_
        refine wpO_not rfl ?_
        refine wpO_not rfl ?_
        refine wpO_not rfl ?_
        refine wpO_not rfl ?_
        refine wpO_not rfl ?_
        refine wpO_not rfl ?_
        refine wpO_not rfl ?_
        refine wpO_not rfl ?_
        refine wpO_not rfl ?_
        refine wpO_not rfl ?_
        refine wpO_not rfl ?_
        refine wpO_not rfl ?_
        refine wpO_not rfl ?_
        refine wpO_not rfl ?_
        refine wpO_not rfl ?_
        refine wpO_not rfl ?_
        refine wpO_not rfl ?_
        refine wpO_not rfl ?_
        refine wpO_not rfl ?_
        refine wpO_not rfl ?_
        refine wpO_not rfl ?_
        refine wpO_not rfl ?_
        refine wpO_val rfl (x_pickB rfl rfl) ?_
        refine wpO_val rfl (x_assignB rfl) ?_
        refine wpO_nil ?_
        refine wpF_ret ?_
        repeat (with_reducible first | refine thenF_r ?_ | refine inBlockF_r ?_)
        refine end_t rfl rfl ?_   -- tmp:4
        exact ⟨bq (show sameDoc d d2 legs legs2 taxes taxes2 vals vals2 = false by unfold sameDoc; rw [hb24]; simp), H.sel [] 2 rfl rfl⟩
    ·
      refine wpO_not rfl ?_
      refine wpO_not rfl ?_
      refine wpO_not rfl ?_
      refine wpO_not rfl ?_
      refine wpO_not rfl ?_
      refine wpO_val rfl (x_pickB rfl rfl) ?_
      refine wpO_val rfl (x_moveB rfl) ?_
      refine wpO_not rfl ?_
      refine wpO_not rfl ?_
      refine wpO_not rfl ?_
      refine wpO_not rfl ?_
      refine wpO_not rfl ?_
      refine wpO_val rfl (x_pickB rfl rfl) ?_
      refine wpO_val rfl (x_moveB rfl) ?_
      refine wpO_not rfl ?_
      refine wpO_not rfl ?_
      refine wpO_not rfl ?_
      refine wpO_not rfl ?_
      refine wpO_not rfl ?_
      refine wpO_val rfl (x_pickB rfl rfl) ?_
      refine wpO_val rfl (x_moveB rfl) ?_
      refine wpO_not rfl ?_
      refine wpO_not rfl ?_
      refine wpO_not rfl ?_
      refine wpO_not rfl ?_
      refine wpO_not rfl ?_
      refine wpO_not rfl ?_
      refine wpO_not rfl ?_
      refine wpO_not rfl ?_
      refine wpO_not rfl ?_
      refine wpO_not rfl ?_
      refine wpO_not rfl ?_
      refine wpO_not rfl ?_
      refine wpO_not rfl ?_
      refine wpO_not rfl ?_
      refine wpO_not rfl ?_
      refine wpO_not rfl ?_
      refine wpO_not rfl ?_
      refine wpO_not rfl ?_
      refine wpO_not rfl ?_
      refine wpO_not rfl ?_
      refine wpO_not rfl ?_
      refine wpO_not rfl ?_
      refine wpO_not rfl ?_
      refine wpO_val rfl (x_pickB rfl rfl) ?_
      refine wpO_val rfl (x_assignB rfl) ?_
      refine wpO_nil ?_
      refine wpF_ret ?_
      repeat (with_reducible first | refine thenF_r ?_ | refine inBlockF_r ?_)
      refine end_t rfl rfl ?_   -- tmp:4
      exact ⟨bq (show sameDoc d d2 legs legs2 taxes taxes2 vals vals2 = false by unfold sameDoc; rw [hb17]; simp), H.sel [] 2 rfl rfl⟩
  ·
    refine wpO_not rfl ?_
    refine wpO_not rfl ?_
    refine wpO_not rfl ?_
    refine wpO_not rfl ?_
    refine wpO_not rfl ?_
    refine wpO_val rfl (x_pickB rfl rfl) ?_
    refine wpO_val rfl (x_moveB rfl) ?_
    refine wpO_not rfl ?_
    refine wpO_not rfl ?_
    refine wpO_not rfl ?_
    refine wpO_not rfl ?_
    refine wpO_not rfl ?_
    refine wpO_val rfl (x_pickB rfl rfl) ?_
    refine wpO_val rfl (x_moveB rfl) ?_
    refine wpO_not rfl ?_
    refine wpO_not rfl ?_
    refine wpO_not rfl ?_
    refine wpO_not rfl ?_
    refine wpO_not rfl ?_
    refine wpO_val rfl (x_pickB rfl rfl) ?_
    refine wpO_val rfl (x_moveB rfl) ?_
    refine wpO_not rfl ?_
    refine wpO_not rfl ?_
    refine wpO_not rfl ?_
    refine wpO_not rfl ?_
    refine wpO_not rfl ?_
    refine wpO_val rfl (x_pickB rfl rfl) ?_
    refine wpO_val rfl (x_moveB rfl) ?_
    refine wpO_not rfl ?_
    refine wpO_not rfl ?_
    refine wpO_not rfl ?_
    refine wpO_not rfl ?_
    refine wpO_not rfl ?_
    refine wpO_not rfl ?_
    refine wpO_not rfl ?_
    refine wpO_not rfl ?_
    refine wpO_not rfl ?_
    refine wpO_not rfl ?_
    refine wpO_not rfl ?_
    refine wpO_not rfl ?_
    refine wpO_not rfl ?_
    refine wpO_not rfl ?_
    refine wpO_not rfl ?_
    refine wpO_not rfl ?_
    refine wpO_not rfl ?_
    refine wpO_not rfl ?_
    refine wpO_not rfl ?_
    refine wpO_not rfl ?_
    refine wpO_not rfl ?_
    refine wpO_not rfl ?_
    refine wpO_not rfl ?_
    refine wpO_val rfl (x_pickB rfl rfl) ?_
    refine wpO_val rfl (x_assignB rfl) ?_
    refine wpO_nil ?_
    refine wpF_ret ?_
    repeat (with_reducible first | refine thenF_r ?_ | refine inBlockF_r ?_)
    refine end_t rfl rfl ?_   -- tmp:4
    exact ⟨bq (show sameDoc d d2 legs legs2 taxes taxes2 vals vals2 = false by unfold sameDoc; rw [hb10]; simp), H.sel [] 2 rfl rfl⟩
-- >> alike_c
end Go.Proofs.YtfoginganpgmcaaGreat
