/- Sales and documents, as they lie in values. -/
import Derived.Test.YtfoginganpgmcaaGreatCoreS
import Derived.Test.YtfoginganpgmcaaGreatCoreF
import Derived.Test.YtfoginganpgmcaaGreatMoney
set_option linter.unusedSimpArgs false
set_option linter.unusedVariables false
namespace Go.Tw
open Go
structure SaleP where
  name : List UInt8
  legs : Sl
  fare : IK .i64
  taxes : Sl
  pen : IK .i64
  deriving DecidableEq
def SaleP.v (s : SaleP) : Value := .agg #[strV s.name, s.legs.v, s.fare.v, s.taxes.v, s.pen.v]
structure DocP where
  t : Ticket
  s : SaleP
  vals : Sl
  fr : Ticket
  to : Ticket
  credit : IK .i64
  paid : IK .i64
  back : IK .i64
  kept : IK .i64
  left : IK .i64
  deriving DecidableEq
def DocP.v (d : DocP) : Value := .agg #[d.t.car.v, d.t.ser.v, strV d.s.name, d.s.legs.v, d.s.fare.v, d.s.taxes.v, d.s.pen.v, d.vals.v, d.fr.car.v, d.fr.ser.v, d.to.car.v, d.to.ser.v, d.credit.v, d.paid.v, d.back.v, d.kept.v, d.left.v]
/-- A sale's slices, read. -/
structure SaleR (g : Heap) (s : SaleP) (legs : List Leg) (taxes : List Tax) : Prop where
  l : SlR g Leg.v 3 s.legs legs
  t : SlR g Tax.v 2 s.taxes taxes

/-! an extern -/
section
variable {P : Program} {f : Fr} {w : World} {d : Option Nat} {ty : TypeId} {pos : String} {af : Array Edge} {gd : Option (Nat × Bool)} {R : Value → World → Prop}
theorem e_ext {k : FuncId} {xs : List Operand} {tys : Array TypeId} {vs : List Value} {e : Array Value → Sem Value} {v : Value} {w' : World} (hk : ∀ args w, (callFunc k args).run P w = ((e args).run P w).andThen fun v w' => .ok (.value v) w')
    (hv : xs.map (ev f) = vs) (hr : (e vs.toArray).run P w = .ok v w') (h : R v w') :
    EffAt P ⟨d, .call ⟨.value (.func k), xs.toArray, tys⟩, ty, pos, af, gd⟩ f w R := by
  have hr2 : runF P ⟨d, .call ⟨.value (.func k), xs.toArray, tys⟩, ty, pos, af, gd⟩ f w = .ok (.value v) w' := by
    have hxx : (do let dd ← resolve (ev f) ⟨.value (.func k), xs.toArray, tys⟩ ty; invoke dd.target dd.args : Sem Next).run P w = .ok (.value v) w' := by
      have e1 : (xs.toArray.map (ev f)) = vs.toArray := by apply Array.ext'; simp [← hv]
      simp only [resolve, ev, Deferred.ofValue, pure_bind, invoke]
      have : (#[] ++ Array.map (ev f) xs.toArray ++ #[] : Array Value) = vs.toArray := by rw [e1]; apply Array.ext'; simp
      rw [this, hk, hr]
      rfl
    exact hxx
  unfold EffAt
  rw [hr2]
  exact h
end
end Go.Tw
namespace Go.Proofs.YtfoginganpgmcaaGreat
open Go Go.Tw
set_option maxRecDepth 100000
theorem elTax : ElLaw Tryz.prog 158 Tax.v 2 := ⟨Tryz.sizeOf158, .inl ⟨Tryz.isAgg158, fun _ => ⟨_, rfl⟩⟩, fun _ => rfl, fun _ => rfl⟩
theorem elLeg : ElLaw Tryz.prog 31 Leg.v 3 := ⟨Tryz.sizeOf31, .inl ⟨Tryz.isAgg31, fun _ => ⟨_, rfl⟩⟩, fun _ => rfl, fun _ => rfl⟩

theorem extIdx (args : Array Value) (w : World) : (callFunc 177 args).run Tryz.prog w = ((Extern.BytealgIndexByte.indexByte args).run Tryz.prog w).andThen fun v w' => .ok (.value v) w' :=
  run_callFunc_extern Tryz.func177 (by kernel_rfl) (by kernel_rfl) (by kernel_rfl) (by kernel_rfl) args w

theorem strAt {xs : List UInt8} {k : Nat} (h : k < xs.length) : (⟨xs.toArray⟩ : ByteArray)[k]? = some xs[k] := by
  rw [getElem?_pos (⟨xs.toArray⟩ : ByteArray) k h]; rfl

/-- strings.IndexByte -/
def idxB (s : List UInt8) (c : Int) : Int := firstIdx ⟨s.toArray⟩ c.toNat.toUInt8

/-- May this byte stand in a text? -/
def okB (also : List UInt8) (c : UInt8) : Bool := !((decide ((c.toNat : Int) < 65) || decide ((c.toNat : Int) > 90)) && decide (idxB also c.toNat < 0))
def letters (s also : List UInt8) : Bool := s.all (okB also)
theorem runIdx (s : List UInt8) (b : Int) (w : World) : (Extern.BytealgIndexByte.indexByte [strV s, .int .u8 b].toArray).run Tryz.prog w = .ok (.int .i64 (idxB s b)) w := run_indexByte_string _ b w

-- << idxB1_c
theorem idxB1_c {c : Cx} {g : Heap} {w : World} {F : List Asn} (s : List UInt8) (b : Int) (H : Holds c g w F) :
    Calls Tryz.prog 165 #[strV s, .int .u8 b] w (Ret fun v w' => v = .int .i64 (idxB s b) ∧ Holds c g w' F) := by
  -- internal/stringslite.IndexByte  (function 292; params ['9', '5']; results tmp:4; ntmps 8)
  refine calls_of_wpF Tryz.func165 rfl Tryz.ntmps165 rfl ?_
  refine wpF_seq ?_
  refine wpF_region rfl ?_   -- R0
  refine wpO_val rfl (x_assignI rfl) ?_
  refine wpO_nil ?_
  refine wpF_seq ?_
  refine wpF_region rfl ?_   -- R1
  refine wpO_val rfl (x_moveS rfl) ?_
  refine wpO_val rfl (x_moveI rfl) ?_
  refine wpO_eff rfl ?_
  refine e_ext (vs := [strV s, .int .u8 b]) (e := Extern.BytealgIndexByte.indexByte) (v := .int .i64 (idxB s b)) (w' := w) ?_ ?_ ?_ ?_
  · exact extIdx
  · rfl
  · exact runIdx s b w
  refine wpO_val rfl (x_assignI rfl) ?_
  refine wpO_nil ?_
  refine wpF_ret ?_
  repeat (with_reducible first | refine thenF_r ?_ | refine inBlockF_r ?_)
  refine end_t rfl rfl ?_   -- tmp:4
  exact ⟨rfl, H⟩
-- >> idxB1_c
-- << idxB_c
theorem idxB_c {c : Cx} {g : Heap} {w : World} {F : List Asn} (s : List UInt8) (b : Int) (H : Holds c g w F) :
    Calls Tryz.prog 137 #[strV s, .int .u8 b] w (Ret fun v w' => v = .int .i64 (idxB s b) ∧ Holds c g w' F) := by
  -- strings.IndexByte  (function 257; params ['9', '5']; results tmp:4; ntmps 8)
  refine calls_of_wpF Tryz.func137 rfl Tryz.ntmps137 rfl ?_
  refine wpF_seq ?_
  refine wpF_region rfl ?_   -- R0
  refine wpO_val rfl (x_assignI rfl) ?_
  refine wpO_nil ?_
  refine wpF_seq ?_
  refine wpF_region rfl ?_   -- R1
  refine wpO_val rfl (x_moveS rfl) ?_
  refine wpO_val rfl (x_moveI rfl) ?_
  refine wpO_eff rfl (e_callF Tryz.call165 rfl ((idxB1_c _ _ H).mono (Ret.mono ?_)))   -- of t5 t6
  rintro v7 w ⟨rfl, H⟩
  refine wpO_val rfl (x_assignI rfl) ?_
  refine wpO_nil ?_
  refine wpF_ret ?_
  repeat (with_reducible first | refine thenF_r ?_ | refine inBlockF_r ?_)
  refine end_t rfl rfl ?_   -- tmp:4
  exact ⟨rfl, H⟩
-- >> idxB_c
-- << letters_c
theorem letters_c {c : Cx} {g : Heap} {w : World} {F : List Asn} (xs also : List UInt8) (hl : xs.length ≤ 9223372036854775807) (H : Holds c g w F) :
    Calls Tryz.prog 111 #[strV xs, strV also] w (Ret fun v w' => v = .bool (letters xs also) ∧ Holds c g w' F) := by
  have H : Holds c g w ([] ++ F) := H
  -- tarmac/ticket.letters  (function 195; params ['9', '9']; results tmp:4; ntmps 30)
  refine calls_of_wpF Tryz.func111 rfl Tryz.ntmps111 rfl ?_
  refine wpF_seq ?_
  refine wpF_region rfl ?_   -- R0
  refine wpO_val rfl (x_assignB rfl) ?_
  refine wpO_nil ?_
  refine wpF_seq ?_
  refine wpF_seq ?_
  refine wpF_region rfl ?_   -- R1
  refine wpO_val rfl (x_moveS rfl) ?_
  refine wpO_val rfl (x_lenStr Tryz.underlying9 rfl) ?_
  refine wpO_val rfl (x_moveI rfl) ?_
  refine wpO_nil ?_
  refine wpF_block ?_   -- block 0
  refine wpF_loop (fun n f w => ∃ k f0, (k ≤ xs.length ∧ n = xs.length - k ∧ (xs.take k).all (okB also) = true) ∧ Holds c g w ([] ++ F) ∧ f = updL f0 [(0, strV xs), (1, strV also), (7, .int .i64 xs.length), (8, .int .i64 (k : Nat))]) xs.length ?_ ?_
  · exact ⟨0, _, ⟨by omega, by omega, by simp⟩, H, updL_eta ⟨rfl, rfl, rfl, rfl, trivial⟩⟩
  · rintro n f w ⟨k, f0, ⟨hk, hn, hall⟩, H, rfl⟩
    refine wpF_seq ?_
    refine wpF_region rfl ?_   -- R2
    refine wpO_val rfl (x_cmp rfl rfl rfl rfl) ?_
    refine wpO_nil ?_
    refine wpF_seq ?_
    refine wpF_cond _ rfl (fun hc => ?_) (fun hc => ?_)   -- t9
    ·
      have hk' : k < xs.length := by simpa using hc
      refine wpF_skip ?_
      refine wpF_seq ?_
      refine wpF_block ?_   -- block 1
      refine wpF_seq ?_
      refine wpF_region rfl ?_   -- R3
      refine wpO_val rfl (x_moveI rfl) ?_
      refine wpO_val rfl (x_assignI rfl) ?_
      refine wpO_nil ?_
      refine wpF_seq ?_
      refine wpF_region rfl ?_   -- R4
      refine wpO_val rfl (x_moveS rfl) ?_
      refine wpO_val rfl (x_moveI rfl) ?_
      refine wpO_val rfl (x_indexStr Tryz.underlying9 rfl rfl (by omega) (strAt hk')) ?_
      refine wpO_val rfl (x_cmp rfl rfl rfl rfl) ?_
      refine wpO_val rfl (x_moveB rfl) ?_
      refine wpO_split 15 rfl (fun hb15 => ?_) (fun hb15 => ?_)
      ·
        refine wpO_not rfl ?_
        refine wpO_not rfl ?_
        refine wpO_not rfl ?_
        refine wpO_not rfl ?_
        refine wpO_val rfl (x_pickB rfl rfl) ?_
        refine wpO_val rfl (x_moveB rfl) ?_
        refine wpO_val rfl (x_moveS rfl) ?_
        refine wpO_val rfl (x_moveS rfl) ?_
        refine wpO_val rfl (x_moveI rfl) ?_
        refine wpO_val rfl (x_indexStr Tryz.underlying9 rfl rfl (by omega) (strAt hk')) ?_
        refine wpO_eff rfl (e_callF Tryz.call137 rfl ((idxB_c also _ H).mono (Ret.mono ?_)))
        rintro v26 w ⟨rfl, H⟩
        refine wpO_val rfl (x_cmp rfl rfl rfl rfl) ?_
        refine wpO_val rfl (x_pickB rfl rfl) ?_
        refine wpO_nil ?_
        refine wpF_cond _ rfl (fun hc => ?_) (fun hc => ?_)   -- t28
        ·
          refine wpF_seq ?_
          refine wpF_region rfl ?_   -- R5
          refine wpO_val rfl (x_assignB rfl) ?_
          refine wpO_nil ?_
          refine wpF_ret ?_
          repeat (with_reducible first | refine thenF_r ?_ | refine inBlockF_r ?_)
          refine end_t rfl rfl ?_   -- tmp:4
          exact ⟨bq (all_no hk' (by simp [okB] at hb15 hc ⊢; omega)), H⟩
        ·
          refine wpF_skip ?_
          refine wpF_region rfl ?_   -- R6
          refine wpO_val rfl (x_arith rfl rfl (fun _ => rfl) rfl) ?_
          refine wpO_val rfl (x_moveI rfl) ?_
          refine wpO_nil ?_
          refine ⟨xs.length - (k + 1), by omega, k + 1, _, ⟨by omega, rfl, all_take hk' hall (by simp [okB] at hb15 hc ⊢; omega)⟩, H, updL_eta ⟨rfl, rfl, rfl, vi64 (w64 (by omega) (by omega)), trivial⟩⟩
      ·
        refine wpO_val rfl (x_moveS rfl) ?_
        refine wpO_val rfl (x_moveI rfl) ?_
        refine wpO_val rfl (x_indexStr Tryz.underlying9 rfl rfl (by omega) (strAt hk')) ?_
        refine wpO_val rfl (x_cmp rfl rfl rfl rfl) ?_
        refine wpO_val rfl (x_pickB rfl rfl) ?_
        refine wpO_val rfl (x_moveB rfl) ?_
        refine wpO_split 21 rfl (fun hb21 => ?_) (fun hb21 => ?_)
        ·
          refine wpO_val rfl (x_moveS rfl) ?_
          refine wpO_val rfl (x_moveS rfl) ?_
          refine wpO_val rfl (x_moveI rfl) ?_
          refine wpO_val rfl (x_indexStr Tryz.underlying9 rfl rfl (by omega) (strAt hk')) ?_
          refine wpO_eff rfl (e_callF Tryz.call137 rfl ((idxB_c also _ H).mono (Ret.mono ?_)))
          rintro v26 w ⟨rfl, H⟩
          refine wpO_val rfl (x_cmp rfl rfl rfl rfl) ?_
          refine wpO_val rfl (x_pickB rfl rfl) ?_
          refine wpO_nil ?_
          refine wpF_cond _ rfl (fun hc => ?_) (fun hc => ?_)   -- t28
          ·
            refine wpF_seq ?_
            refine wpF_region rfl ?_   -- R5
            refine wpO_val rfl (x_assignB rfl) ?_
            refine wpO_nil ?_
            refine wpF_ret ?_
            repeat (with_reducible first | refine thenF_r ?_ | refine inBlockF_r ?_)
            refine end_t rfl rfl ?_   -- tmp:4
            exact ⟨bq (all_no hk' (by simp [okB] at hb21 hc ⊢; omega)), H⟩
          ·
            refine wpF_skip ?_
            refine wpF_region rfl ?_   -- R6
            refine wpO_val rfl (x_arith rfl rfl (fun _ => rfl) rfl) ?_
            refine wpO_val rfl (x_moveI rfl) ?_
            refine wpO_nil ?_
            refine ⟨xs.length - (k + 1), by omega, k + 1, _, ⟨by omega, rfl, all_take hk' hall (by simp [okB] at hb21 hc ⊢; omega)⟩, H, updL_eta ⟨rfl, rfl, rfl, vi64 (w64 (by omega) (by omega)), trivial⟩⟩
        ·
          refine wpO_not rfl ?_
          refine wpO_not rfl ?_
          refine wpO_not rfl ?_
          refine wpO_not rfl ?_
          refine wpO_not rfl ?_
          refine wpO_not rfl ?_
          refine wpO_val rfl (x_pickB rfl rfl) ?_
          refine wpO_nil ?_
          refine wpF_false rfl ?_
          refine wpF_skip ?_
          refine wpF_region rfl ?_   -- R6
          refine wpO_val rfl (x_arith rfl rfl (fun _ => rfl) rfl) ?_
          refine wpO_val rfl (x_moveI rfl) ?_
          refine wpO_nil ?_
          refine ⟨xs.length - (k + 1), by omega, k + 1, _, ⟨by omega, rfl, all_take hk' hall (by simp [okB] at hb15 hb21 ⊢; omega)⟩, H, updL_eta ⟨rfl, rfl, rfl, vi64 (w64 (by omega) (by omega)), trivial⟩⟩
    ·
      refine wpF_exit ?_   -- exit 0
      refine wpF_seq ?_
      refine wpF_region rfl ?_   -- R7
      refine wpO_val rfl (x_assignB rfl) ?_
      refine wpO_nil ?_
      refine wpF_ret ?_
      repeat (with_reducible first | refine thenF_r ?_ | refine inBlockF_r ?_)
      refine end_t rfl rfl ?_   -- tmp:4
      exact ⟨bq (all_end (by simpa using hc) hall), H⟩
-- >> letters_c
theorem isint64 : El Tryz.prog 2 1 8 (.int .i64 0) := ⟨⟨Tryz.t2, by kernel_rfl, rfl, rfl, rfl⟩, rfl, by decide⟩

def amounts (l : List Int) : Bool := l.all fun a => !(decide (a < 0) || !inM a)
/-- A sale's price, and the error. -/
def priceOf (s : SaleP) (taxes : List Tax) : Int × Int := msum (s.fare.n :: taxes.map fun t => t.amt.n)

-- << amounts_c
theorem amounts_c {c : Cx} {g : Heap} {w : World} {F : List Asn} {s : Sl} {xs : List Int} (hs : SlR g encI 1 s xs) (hl : xs.length ≤ 9223372036854775807) (H : Holds c g w F) :
    Calls Tryz.prog 114 #[s.v] w (Ret fun v w' => v = .bool (amounts xs) ∧ Holds c g w' F) := by
  have H : Holds c g w ([] ++ F) := H
  have hlen := hs.len
  -- tarmac/ticket.amounts  (function 198; params ['60']; results tmp:2; ntmps 19)
  refine calls_of_wpF Tryz.func114 rfl Tryz.ntmps114 rfl ?_
  refine wpF_seq ?_
  refine wpF_region rfl ?_   -- R0
  refine wpO_val rfl (x_assignB rfl) ?_
  refine wpO_nil ?_
  refine wpF_seq ?_
  refine wpF_seq ?_
  refine wpF_region rfl ?_   -- R1
  refine wpO_val rfl (x_moveL rfl) ?_
  refine wpO_val rfl (x_lenSl Tryz.underlying60 rfl) ?_
  refine wpO_val rfl (x_moveI rfl) ?_
  refine wpO_nil ?_
  refine wpF_block ?_   -- block 0
  refine wpF_loop (fun n f w => ∃ k f0, (k ≤ xs.length ∧ n = xs.length - k ∧ (xs.take k).all (fun a => !(decide (a < 0) || !inM a)) = true) ∧ Holds c g w ([] ++ F) ∧ f = updL f0 [(5, s.v), (6, .int .i64 s.len), (7, .int .i64 (k : Nat))]) xs.length ?_ ?_
  · exact ⟨0, _, ⟨by omega, by omega, by simp⟩, H, updL_eta ⟨rfl, rfl, rfl, trivial⟩⟩
  · rintro n f w ⟨k, f0, ⟨hk, hn, hall⟩, H, rfl⟩
    refine wpF_seq ?_
    refine wpF_region rfl ?_   -- R2
    refine wpO_val rfl (x_cmp rfl rfl rfl rfl) ?_
    refine wpO_nil ?_
    refine wpF_seq ?_
    refine wpF_cond _ rfl (fun hc => ?_) (fun hc => ?_)   -- t8
    ·
      have hk' : k < xs.length := by rw [← hlen]; simpa using hc
      refine wpF_skip ?_
      refine wpF_seq ?_
      refine wpF_block ?_   -- block 1
      refine wpF_seq ?_
      refine wpF_region rfl ?_   -- R3
      refine wpO_val rfl (x_indexEl hs Tryz.underlying60 Tryz.sizeOf2 rfl rfl (by omega) (by omega)) ?_
      refine wpO_val rfl (x_loadEl elint64 hs H rfl (List.getElem?_eq_getElem hk')) ?_
      refine wpO_val rfl (x_assignI rfl) ?_
      refine wpO_nil ?_
      refine wpF_seq ?_
      refine wpF_region rfl ?_   -- R4
      refine wpO_val rfl (x_moveI rfl) ?_
      refine wpO_val rfl (x_cmp rfl rfl rfl rfl) ?_
      refine wpO_val rfl (x_moveB rfl) ?_
      refine wpO_split 13 rfl (fun hb13 => ?_) (fun hb13 => ?_)
      ·
        refine wpO_not rfl ?_
        refine wpO_not rfl ?_
        refine wpO_not rfl ?_
        refine wpO_val rfl (x_pickB rfl rfl) ?_
        refine wpO_nil ?_
        refine wpF_true rfl ?_
        refine wpF_seq ?_
        refine wpF_region rfl ?_   -- R5
        refine wpO_val rfl (x_assignB rfl) ?_
        refine wpO_nil ?_
        refine wpF_ret ?_
        repeat (with_reducible first | refine thenF_r ?_ | refine inBlockF_r ?_)
        refine end_t rfl rfl ?_   -- tmp:2
        exact ⟨bq (all_no hk' (by simp at hb13; simp [hb13])), H⟩
      ·
        refine wpO_val rfl (x_moveI rfl) ?_
        refine wpO_eff rfl (e_callF Tryz.call122 rfl ((mcheck_c xs[k] H).mono (Ret.mono ?_)))
        rintro v15 w ⟨rfl, H⟩
        refine wpO_val rfl (x_cmp rfl rfl rfl rfl) ?_
        refine wpO_val rfl (x_pickB rfl rfl) ?_
        refine wpO_nil ?_
        refine wpF_cond _ rfl (fun hc => ?_) (fun hc => ?_)   -- t17
        ·
          refine wpF_seq ?_
          refine wpF_region rfl ?_   -- R5
          refine wpO_val rfl (x_assignB rfl) ?_
          refine wpO_nil ?_
          refine wpF_ret ?_
          repeat (with_reducible first | refine thenF_r ?_ | refine inBlockF_r ?_)
          refine end_t rfl rfl ?_   -- tmp:2
          exact ⟨bq (all_no hk' (by simp at hc; simp [hc])), H⟩
        ·
          refine wpF_skip ?_
          refine wpF_region rfl ?_   -- R6
          refine wpO_val rfl (x_arith rfl rfl (fun _ => rfl) rfl) ?_
          refine wpO_val rfl (x_moveI rfl) ?_
          refine wpO_nil ?_
          refine ⟨xs.length - (k + 1), by omega, k + 1, _, ⟨by omega, rfl, all_take hk' hall (by simp at hb13 hc; simp [hb13, hc])⟩, H, updL_eta ⟨rfl, rfl, vi64 (w64 (by omega) (by omega)), trivial⟩⟩
    ·
      refine wpF_exit ?_   -- exit 0
      refine wpF_seq ?_
      refine wpF_region rfl ?_   -- R7
      refine wpO_val rfl (x_assignB rfl) ?_
      refine wpO_nil ?_
      refine wpF_ret ?_
      repeat (with_reducible first | refine thenF_r ?_ | refine inBlockF_r ?_)
      refine end_t rfl rfl ?_   -- tmp:2
      exact ⟨bq (all_end (by rw [← hlen]; simpa using hc) hall), H⟩
-- >> amounts_c
-- << price_c
theorem price_c {c : Cx} {g : Heap} {w : World} {F : List Asn} (s0 : SaleP) (xs : List Tax) (hs : SlR g Tax.v 2 s0.taxes xs) (hl : xs.length ≤ 1000000) (H : Holds c g w F) :
    Calls Tryz.prog 121 #[s0.v] w (Ret fun v w' => v = pair2 (priceOf s0 xs) ∧ Holds c g w' F) := by
  have H : Holds c g w ([] ++ F) := H
  have hlen := hs.len
  -- tarmac/ticket.Price  (function 115; params ['59']; results tmp:2 tmp:3; ntmps 27)
  refine calls_of_wpF Tryz.func121 rfl Tryz.ntmps121 rfl ?_
  refine wpF_seq ?_
  refine wpF_region rfl ?_   -- R0
  refine wpO_eff rfl (e_box H rfl fun b1 w H => ?_)
  refine wpO_val rfl (x_assignI rfl) ?_
  refine wpO_val rfl (x_assignI rfl) ?_
  refine wpO_nil ?_
  refine wpF_seq ?_
  refine wpF_region rfl ?_   -- R1
  refine wpO_val rfl (x_fieldAddr Tryz.underlying59 rfl Tryz.sizeOf2 rfl) ?_
  refine wpO_val rfl (x_load0b Tryz.isAgg2 rfl (H.getF 0 rfl) rfl) ?_
  refine wpO_eff rfl (e_buildSlice H Tryz.underlying60 Tryz.sizeOf2 Tryz.zeroValue2 rfl rfl (vs := [s0.fare.v]) rfl rfl (cs := [encI s0.fare.n]) rfl fun b9 w H => ?_)
  have H := H.toRowAt (m := 1) (n := 1) 1 rfl rfl
  refine wpO_val rfl (x_assignL rfl) ?_
  refine wpO_nil ?_
  refine wpF_seq ?_
  refine wpF_seq ?_
  refine wpF_region rfl ?_   -- R2
  refine wpO_val rfl (x_fieldAddr Tryz.underlying59 rfl Tryz.sizeOf57 rfl) ?_
  refine wpO_val rfl (x_load0b Tryz.isAgg57 rfl (H.getF 0 rfl) rfl) ?_
  refine wpO_val rfl (x_lenSl Tryz.underlying57 rfl) ?_
  refine wpO_val rfl (x_moveI rfl) ?_
  refine wpO_nil ?_
  refine wpF_block ?_   -- block 0
  refine wpF_loop (fun n f w => ∃ k f0 s, (k ≤ xs.length ∧ n = xs.length - k ∧ s.len = k + 1) ∧ Holds c g w ([pt b1 (.cells s0.v.cells 59), rowA 2 1 s (encI s0.fare.n :: (xs.take k).map fun t => encI t.amt.n)] ++ F) ∧ f = updL f0 [(4, s.v), (11, s0.taxes.v), (12, .int .i64 s0.taxes.len), (13, .int .i64 (k : Nat))]) xs.length ?_ ?_
  · exact ⟨0, _, _, ⟨by omega, by omega, rfl⟩, H, updL_eta ⟨rfl, rfl, rfl, rfl, trivial⟩⟩
  · rintro n f w ⟨k, f0, s, ⟨hk, hn, hall⟩, H, rfl⟩
    refine wpF_seq ?_
    refine wpF_region rfl ?_   -- R3
    refine wpO_val rfl (x_cmp rfl rfl rfl rfl) ?_
    refine wpO_nil ?_
    refine wpF_seq ?_
    refine wpF_cond _ rfl (fun hc => ?_) (fun hc => ?_)   -- t14
    ·
      have hk' : k < xs.length := by rw [← hlen]; simpa using hc
      refine wpF_skip ?_
      refine wpF_seq ?_
      refine wpF_block ?_   -- block 1
      refine wpF_seq ?_
      refine wpF_region rfl ?_   -- R4
      refine wpO_val rfl (x_indexEl hs Tryz.underlying57 Tryz.sizeOf158 rfl rfl (by omega) (by omega)) ?_
      refine wpO_val rfl (x_loadEl elTax hs H rfl (List.getElem?_eq_getElem hk')) ?_
      refine wpO_eff rfl (e_alloc H Tryz.zeroValue158 fun b6 w H => ?_)
      refine wpO_eff0 rfl (e_storeAll H 2 rfl Tryz.sizeOf158 rfl rfl rfl rfl rfl fun w H => ?_)
      refine wpO_nil ?_
      refine wpF_region rfl ?_   -- R5
      refine wpO_val rfl (x_moveL rfl) ?_
      refine wpO_val rfl (x_fieldAddr Tryz.underlying158 rfl Tryz.sizeOf2 rfl) ?_
      refine wpO_val rfl (x_load0b Tryz.isAgg2 rfl (H.getF 2 rfl) rfl) ?_
      refine wpO_eff rfl (e_buildSlice H Tryz.underlying60 Tryz.sizeOf2 Tryz.zeroValue2 rfl rfl (vs := [xs[k].amt.v]) rfl rfl (cs := [encI xs[k].amt.n]) rfl fun b20 w H => ?_)
      refine wpO_eff rfl (e_appendLit H 1 3 rfl rfl Tryz.underlying60 isint64 rfl rfl rfl rfl (by omega) (by omega) fun s21 w hs21 hn21 H => ?_)
      refine wpO_val rfl (x_assignL rfl) ?_
      refine wpO_nil ?_
      refine wpF_region rfl ?_   -- R6
      refine wpO_val rfl (x_arith rfl rfl (fun _ => rfl) rfl) ?_
      refine wpO_val rfl (x_moveI rfl) ?_
      refine wpO_nil ?_
      have e : encI s0.fare.n :: ((xs.take k).map fun t => encI t.amt.n) ++ [encI xs[k].amt.n] = encI s0.fare.n :: ((xs.take (k + 1)).map fun t => encI t.amt.n) := by
        rw [List.take_succ_eq_append_getElem hk', List.map_append]; rfl
      have H := H.sel [0, 1] 4 rfl rfl
      refine ⟨xs.length - (k + 1), by omega, k + 1, _, s21, ⟨by omega, rfl, by omega⟩, e ▸ H, updL_eta ⟨rfl, rfl, rfl, vi64 (w64 (by omega) (by omega)), trivial⟩⟩
    ·
      have hk2 : ¬ (k : Int) < xs.length := by rw [← hlen]; simpa using hc
      rw [List.take_of_length_le (by omega)] at H
      obtain ⟨g', hle, H, hr⟩ := Holds.sealRow (enc := encI) (xs := s0.fare.n :: xs.map fun t => t.amt.n) (H.sel [1, 0] 2 rfl rfl) (by rw [List.flatMap_cons, List.flatMap_map]; simp [encI, Value.cells, List.map_eq_flatMap]) (fun _ _ => rfl) (by decide)
      have H : Holds c g' w ([pt b1 (.cells s0.v.cells 59)] ++ F) := H
      refine wpF_exit ?_   -- exit 0
      refine wpF_seq ?_
      refine wpF_region rfl ?_   -- R7
      refine wpO_val rfl (x_moveL rfl) ?_
      refine wpO_eff rfl (e_callF Tryz.call140 rfl ((msum_c hr (by simp; omega) H).mono (Ret.mono ?_)))
      rintro v24 w ⟨rfl, H⟩
      refine wpO_val rfl (x_extract rfl rfl) ?_
      refine wpO_val rfl (x_extract rfl rfl) ?_
      refine wpO_val rfl (x_assignI rfl) ?_
      refine wpO_val rfl (x_assignI rfl) ?_
      refine wpO_nil ?_
      refine wpF_ret ?_
      repeat (with_reducible first | refine thenF_r ?_ | refine inBlockF_r ?_)
      refine end_tt rfl rfl rfl ?_   -- tmp:2 tmp:3
      exact ⟨rfl, Holds.forget (H.sel [] 1 rfl rfl) hle⟩
-- >> price_c
end Go.Proofs.YtfoginganpgmcaaGreat
