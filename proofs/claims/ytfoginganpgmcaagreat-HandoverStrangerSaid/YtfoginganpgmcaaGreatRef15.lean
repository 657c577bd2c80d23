/- The document's book. -/
import Derived.Test.YtfoginganpgmcaaGreatRef9
import Derived.Test.YtfoginganpgmcaaGreatIssue
set_option linter.unusedSimpArgs false
set_option linter.unusedVariables false
namespace Go.Tw
open Go
/-- A coupon, and its Own. -/
structure Mine where
  k : Key
  o : Own
  deriving DecidableEq
def Mine.v (x : Mine) : Value := .agg #[x.k.t.car.v, x.k.t.ser.v, x.k.i.v, x.o.c.leg.car.v, x.o.c.leg.fl.v, x.o.c.leg.wt.v, x.o.c.val.v, x.o.c.st.v, x.o.c.non.v, .bool x.o.away, x.o.to.v, .bool x.o.paid, .bool x.o.asked]
/-- A coupon, and its Held. -/
structure Other where
  k : Key
  h : Held
  deriving DecidableEq
def Other.v (x : Other) : Value := .agg #[x.k.t.car.v, x.k.t.ser.v, x.k.i.v, x.h.c.leg.car.v, x.h.c.leg.fl.v, x.h.c.leg.wt.v, x.h.c.val.v, x.h.c.st.v, x.h.c.non.v, .bool x.h.here, .bool x.h.paid, .bool x.h.wanted, .bool x.h.billed]
/-- The place of the first that fits; -1: none. -/
def fidx {α : Type} (p : α → Bool) (l : List α) : Int := match l.findIdx? p with
  | some i => i
  | none => -1
theorem fidx_none {α : Type} {p : α → Bool} {l : List α} (h : ∀ x ∈ l, p x = false) : fidx p l = -1 := by
  unfold fidx
  rw [List.findIdx?_eq_none_iff.2 h]
theorem fidx_some {α : Type} {p : α → Bool} {l : List α} {i : Nat} (hi : i < l.length) (hp : p l[i] = true) (h : ∀ x ∈ l.take i, p x = false) : fidx p l = i := by
  unfold fidx
  have : l.findIdx? p = some i := by
    rw [List.findIdx?_eq_some_iff_getElem]
    refine ⟨hi, hp, fun j hj => ?_⟩
    have := h l[j] (List.mem_take_iff_getElem.2 ⟨j, by omega, rfl⟩)
    simp [this]
  rw [this]
end Go.Tw
namespace Go.Proofs.YtfoginganpgmcaaGreat
open Go Go.Tw
set_option maxRecDepth 100000

structure Rb where
  self : IK .u8
  n : IK .i64
  ds : Sl
  os : Sl
  hs : Sl
  docs : List DocP
  owns : List Mine
  others : List Other
def Rb.cs (W : Rb) : Array Value := #[W.self.v, W.n.v, W.ds.v, W.os.v, W.hs.v]
def Rb.L (W : Rb) (b : Nat) : List Asn := [pt b (.cells W.cs 90), rowE 62 DocP.v 17 W.ds W.docs, rowE 93 Mine.v 13 W.os W.owns, rowE 147 Other.v 13 W.hs W.others]
structure Rb.ok (W : Rb) : Prop where
  ds : W.ds.len = W.docs.length
  os : W.os.len = W.owns.length
  hs : W.hs.len = W.others.length
theorem elMine : ElLaw Tryz.prog 93 Mine.v 13 := ⟨Tryz.sizeOf93, .inl ⟨Tryz.isAgg93, fun _ => ⟨_, rfl⟩⟩, fun _ => rfl, fun _ => rfl⟩
theorem elOther : ElLaw Tryz.prog 147 Other.v 13 := ⟨Tryz.sizeOf147, .inl ⟨Tryz.isAgg147, fun _ => ⟨_, rfl⟩⟩, fun _ => rfl, fun _ => rfl⟩
theorem elDoc : ElLaw Tryz.prog 62 DocP.v 17 := ⟨Tryz.sizeOf62, .inl ⟨Tryz.isAgg62, fun _ => ⟨_, rfl⟩⟩, fun _ => rfl, fun _ => rfl⟩
def mineZ : Value := .agg (Key.zero.v.cells ++ Own.zero.v.cells)
def otherZ : Value := .agg (Key.zero.v.cells ++ Held.zero.v.cells)
theorem isMine : El Tryz.prog 93 13 56 mineZ := ⟨⟨Tryz.t93, by kernel_rfl, by kernel_rfl, by kernel_rfl, by kernel_rfl⟩, rfl, by decide⟩
theorem isOther : El Tryz.prog 147 13 56 otherZ := ⟨⟨Tryz.t147, by kernel_rfl, by kernel_rfl, by kernel_rfl, by kernel_rfl⟩, rfl, by decide⟩
theorem isDoc : El Tryz.prog 62 17 192 DocP.zero.v := ⟨⟨Tryz.t62, by kernel_rfl, by kernel_rfl, by kernel_rfl, by kernel_rfl⟩, rfl, by decide⟩
theorem stRbook : StLaw Tryz.prog 90 [(0, 1), (1, 1), (2, 1), (3, 1), (4, 1)] #[.int .u8 0, .int .i64 0, .slice none 0 0, .slice none 0 0, .slice none 0 0] := fun parts => by kernel_rfl
theorem stMine : StLaw Tryz.prog 93 [(0, 3), (3, 10)] mineZ.cells := fun parts => by kernel_rfl
theorem stOther : StLaw Tryz.prog 147 [(0, 3), (3, 10)] otherZ.cells := fun parts => by kernel_rfl

/-- Does a coupon stand ahead of another one? -/
def aheadK (a b : Key) : Bool :=
  if (a.t.car.n != b.t.car.n) = true then decide (a.t.car.n < b.t.car.n)
  else if (a.t.ser.n != b.t.ser.n) = true then decide (a.t.ser.n < b.t.ser.n)
  else decide (a.i.n < b.i.n)
-- << rOwn_c
theorem rOwn_c {c : Cx} {g : Heap} {w : World} {F : List Asn} {bw : Nat} (W : Rb) (k : Key) (hb : W.owns.length ≤ 1000000) (H : Holds c g w (W.L bw ++ F)) :
    Calls Tryz.prog 28 #[.pointer (some ⟨bw, 0, none⟩), k.v] w (Ret fun v w' => v = .int .i64 (fidx (fun x => decide (x.k = k)) W.owns) ∧ Holds c g w' (W.L bw ++ F)) := by
  obtain ⟨self, n0, ds, os, hs, docs, owns, others⟩ := W
  simp only at hb
  have hlen : os.len = owns.length := (Holds.rowShape (L := Rb.L _ bw) H 2 rfl (fun _ => rfl) rfl).1
  -- (*tarmac/tarmacref15.Book).Own  (function 28; params ['38', '27']; results tmp:4; ntmps 26)
  refine calls_of_wpF Tryz.func28 rfl Tryz.ntmps28 rfl ?_
  refine wpF_seq ?_
  refine wpF_region rfl ?_   -- R0
  refine wpO_eff rfl (e_boxA H rfl fun b3 w H => ?_)
  refine wpO_val rfl (x_assignI rfl) ?_
  refine wpO_nil ?_
  refine wpF_seq ?_
  refine wpF_seq ?_
  refine wpF_region rfl ?_   -- R1
  refine wpO_val rfl (x_assignI rfl) ?_
  refine wpO_nil ?_
  refine wpF_block ?_   -- block 0
  refine wpF_loop (fun q f w => ∃ (i : Nat) (f0 : Fr), (i ≤ owns.length ∧ q = owns.length - i ∧ ∀ x ∈ owns.take i, decide (x.k = k) = false) ∧ Holds c g w (((⟨self, n0, ds, os, hs, docs, owns, others⟩ : Rb).L bw ++ [pt b3 (.cells k.v.cells 27)]) ++ F) ∧ f = updL f0 [(0, .pointer (some ⟨bw, 0, none⟩)), (3, .pointer (some ⟨b3, 0, none⟩)), (5, .int .i64 (i : Nat))]) owns.length ?_ ?_
  · exact ⟨0, _, ⟨by omega, by omega, by simp⟩, H, updL_eta ⟨rfl, rfl, rfl, trivial⟩⟩
  · rintro q f w ⟨i, f0, ⟨hi, hq, hall⟩, H, rfl⟩
    refine wpF_seq ?_
    refine wpF_seq ?_
    refine wpF_region rfl ?_   -- R2
    refine wpO_val rfl (x_moveI rfl) ?_
    refine wpO_val rfl (x_moveP rfl) ?_
    refine wpO_val rfl (x_nilCheck rfl) ?_
    refine wpO_val rfl (x_fieldAddrN Tryz.underlying90 rfl Tryz.sizeOf87 rfl rfl) ?_
    refine wpO_val rfl (x_load0bL Tryz.isAgg87 rfl (H.getF 0 rfl) rfl) ?_
    refine wpO_val rfl (x_lenSl Tryz.underlying87 rfl) ?_
    refine wpO_val rfl (x_cmp rfl rfl rfl rfl) ?_
    refine wpO_nil ?_
    refine wpF_cond _ rfl (fun hc12 => ?_) (fun hc12 => ?_)
    ·
      have hk' : i < owns.length := by rw [← hlen]; simpa using hc12
      obtain ⟨bo, cpo, hos, _⟩ : ∃ b cp, os = ⟨some ⟨b, 0, none⟩, owns.length, cp⟩ ∧ owns.length ≤ cp := H.rowSome 2 rfl (fun _ => rfl) rfl (by intro h; rw [h] at hk'; simp at hk')
      subst hos
      refine wpF_skip ?_
      refine wpF_seq ?_
      refine wpF_block ?_   -- block 1
      refine wpF_seq ?_
      refine wpF_drawC [0, 1, 2, 3, 4, 5, 6, 7, 8, 9] [] [0, 0, 0, 0, 0, 0, 0, 0, 0, 0] (fun _ _ => True) mixed (by kernel_rfl) rfl fun w hw => ?_   -- R4 DRAWS []
      have H := H.to hw
      refine wpDC_e rfl rfl rfl rfl (x_moveP rfl) ?_
      refine wpDC_e rfl rfl rfl rfl (x_nilCheck rfl) ?_
      refine wpDC_e rfl rfl rfl rfl (x_fieldAddrN Tryz.underlying90 rfl Tryz.sizeOf87 rfl rfl) ?_
      refine wpDC_e rfl rfl rfl rfl (x_load0bL Tryz.isAgg87 rfl (H.getF 0 rfl) rfl) ?_
      refine wpDC_e rfl rfl rfl rfl (x_moveI rfl) ?_
      refine wpDC_e rfl rfl rfl rfl (x_indexSl Tryz.underlying87 Tryz.sizeOf93 rfl rfl (by omega) (by simpa using hk')) ?_
      refine wpDC_e rfl rfl rfl rfl (x_fieldAddrN (o' := 0 + i * 13 + 0) Tryz.underlying93 rfl Tryz.sizeOf27 rfl rfl) ?_
      refine wpDC_e rfl rfl rfl rfl (x_loadRowG (k := i) (o := 0) owns[i].k.v H 2 rfl (fun _ => rfl) Tryz.isAgg27 Tryz.sizeOf27 rfl (List.getElem?_eq_getElem hk') rfl (by kernel_rfl)) ?_
      refine wpDC_e rfl rfl rfl rfl (x_load1V k.v Tryz.isAgg27 Tryz.sizeOf27 rfl (H.getF 4 rfl) (by kernel_rfl) (by kernel_rfl)) ?_
      refine wpDC_e rfl rfl rfl rfl (x_eqlE (a := owns[i].k) (b := k) eqKey (by kernel_rfl) rfl rfl rfl rfl) ?_
      refine wpDC_nil ?_
      refine wpF_cond _ rfl (fun hc24 => ?_) (fun hc24 => ?_)
      ·
        refine wpF_seq ?_
        refine wpF_region rfl ?_   -- R5
        refine wpO_val rfl (x_moveI rfl) ?_
        refine wpO_val rfl (x_assignI rfl) ?_
        refine wpO_nil ?_
        refine wpF_ret ?_
        repeat (with_reducible first | refine thenF_r ?_ | refine inBlockF_r ?_)
        refine end_t rfl rfl ?_   -- tmp:4
        exact ⟨by rw [show fidx (fun x => decide (x.k = k)) owns = (i : Int) from fidx_some hk' hc24 hall]; rfl, H.sel [0, 1, 2, 3] 5 rfl rfl⟩
      ·
        refine wpF_skip ?_
        refine wpF_region rfl ?_   -- R3
        refine wpO_val rfl (x_moveI rfl) ?_
        refine wpO_val rfl (x_arith rfl rfl (fun _ => rfl) rfl) ?_
        refine wpO_val rfl (x_assignI rfl) ?_
        refine wpO_nil ?_
        refine ⟨owns.length - (i + 1), by omega, i + 1, _, ⟨by omega, rfl, ?_⟩, H, updL_eta ⟨rfl, rfl, vi64 (w64 (by omega) (by omega)), trivial⟩⟩
        rw [List.take_succ_eq_append_getElem hk']
        intro x hx
        rcases List.mem_append.1 hx with hx | hx
        · exact hall x hx
        · simp at hx; subst hx; exact hc24
    ·
      have hkk : i = owns.length := by have h3 : ¬ (i : Int) < owns.length := (by rw [← hlen]; simpa using hc12); omega
      subst hkk
      rw [List.take_length] at hall
      refine wpF_exit ?_   -- exit 0
      refine wpF_seq ?_
      refine wpF_region rfl ?_   -- R6
      refine wpO_val rfl (x_assignI rfl) ?_
      refine wpO_nil ?_
      refine wpF_ret ?_
      repeat (with_reducible first | refine thenF_r ?_ | refine inBlockF_r ?_)
      refine end_t rfl rfl ?_   -- tmp:4
      exact ⟨by rw [show fidx (fun x => decide (x.k = k)) owns = -1 from fidx_none hall]; rfl, H.sel [0, 1, 2, 3] 5 rfl rfl⟩
-- >> rOwn_c
-- << rHeld_c
theorem rHeld_c {c : Cx} {g : Heap} {w : World} {F : List Asn} {bw : Nat} (W : Rb) (k : Key) (hb : W.others.length ≤ 1000000) (H : Holds c g w (W.L bw ++ F)) :
    Calls Tryz.prog 76 #[.pointer (some ⟨bw, 0, none⟩), k.v] w (Ret fun v w' => v = .int .i64 (fidx (fun x => decide (x.k = k)) W.others) ∧ Holds c g w' (W.L bw ++ F)) := by
  obtain ⟨self, n0, ds, os, hs, docs, owns, others⟩ := W
  simp only at hb
  have hlen : hs.len = others.length := (Holds.rowShape (L := Rb.L _ bw) H 3 rfl (fun _ => rfl) rfl).1
  -- (*tarmac/tarmacref15.Book).Held  (function 76; params ['38', '27']; results tmp:4; ntmps 26)
  refine calls_of_wpF Tryz.func76 rfl Tryz.ntmps76 rfl ?_
  refine wpF_seq ?_
  refine wpF_region rfl ?_   -- R0
  refine wpO_eff rfl (e_boxA H rfl fun b3 w H => ?_)
  refine wpO_val rfl (x_assignI rfl) ?_
  refine wpO_nil ?_
  refine wpF_seq ?_
  refine wpF_seq ?_
  refine wpF_region rfl ?_   -- R1
  refine wpO_val rfl (x_assignI rfl) ?_
  refine wpO_nil ?_
  refine wpF_block ?_   -- block 0
  refine wpF_loop (fun q f w => ∃ (i : Nat) (f0 : Fr), (i ≤ others.length ∧ q = others.length - i ∧ ∀ x ∈ others.take i, decide (x.k = k) = false) ∧ Holds c g w (((⟨self, n0, ds, os, hs, docs, owns, others⟩ : Rb).L bw ++ [pt b3 (.cells k.v.cells 27)]) ++ F) ∧ f = updL f0 [(0, .pointer (some ⟨bw, 0, none⟩)), (3, .pointer (some ⟨b3, 0, none⟩)), (5, .int .i64 (i : Nat))]) others.length ?_ ?_
  · exact ⟨0, _, ⟨by omega, by omega, by simp⟩, H, updL_eta ⟨rfl, rfl, rfl, trivial⟩⟩
  · rintro q f w ⟨i, f0, ⟨hi, hq, hall⟩, H, rfl⟩
    refine wpF_seq ?_
    refine wpF_seq ?_
    refine wpF_region rfl ?_   -- R2
    refine wpO_val rfl (x_moveI rfl) ?_
    refine wpO_val rfl (x_moveP rfl) ?_
    refine wpO_val rfl (x_nilCheck rfl) ?_
    refine wpO_val rfl (x_fieldAddrN Tryz.underlying90 rfl Tryz.sizeOf88 rfl rfl) ?_
    refine wpO_val rfl (x_load0bL Tryz.isAgg88 rfl (H.getF 0 rfl) rfl) ?_
    refine wpO_val rfl (x_lenSl Tryz.underlying88 rfl) ?_
    refine wpO_val rfl (x_cmp rfl rfl rfl rfl) ?_
    refine wpO_nil ?_
    refine wpF_cond _ rfl (fun hc12 => ?_) (fun hc12 => ?_)
    ·
      have hk' : i < others.length := by rw [← hlen]; simpa using hc12
      obtain ⟨bo, cpo, hos, _⟩ : ∃ b cp, hs = ⟨some ⟨b, 0, none⟩, others.length, cp⟩ ∧ others.length ≤ cp := H.rowSome 3 rfl (fun _ => rfl) rfl (by intro h; rw [h] at hk'; simp at hk')
      subst hos
      refine wpF_skip ?_
      refine wpF_seq ?_
      refine wpF_block ?_   -- block 1
      refine wpF_seq ?_
      refine wpF_drawC [0, 1, 2, 3, 4, 5, 6, 7, 8, 9] [] [0, 0, 0, 0, 0, 0, 0, 0, 0, 0] (fun _ _ => True) mixed (by kernel_rfl) rfl fun w hw => ?_   -- R4 DRAWS []
      have H := H.to hw
      refine wpDC_e rfl rfl rfl rfl (x_moveP rfl) ?_
      refine wpDC_e rfl rfl rfl rfl (x_nilCheck rfl) ?_
      refine wpDC_e rfl rfl rfl rfl (x_fieldAddrN Tryz.underlying90 rfl Tryz.sizeOf88 rfl rfl) ?_
      refine wpDC_e rfl rfl rfl rfl (x_load0bL Tryz.isAgg88 rfl (H.getF 0 rfl) rfl) ?_
      refine wpDC_e rfl rfl rfl rfl (x_moveI rfl) ?_
      refine wpDC_e rfl rfl rfl rfl (x_indexSl Tryz.underlying88 Tryz.sizeOf147 rfl rfl (by omega) (by simpa using hk')) ?_
      refine wpDC_e rfl rfl rfl rfl (x_fieldAddrN (o' := 0 + i * 13 + 0) Tryz.underlying147 rfl Tryz.sizeOf27 rfl rfl) ?_
      refine wpDC_e rfl rfl rfl rfl (x_loadRowG (k := i) (o := 0) others[i].k.v H 3 rfl (fun _ => rfl) Tryz.isAgg27 Tryz.sizeOf27 rfl (List.getElem?_eq_getElem hk') rfl (by kernel_rfl)) ?_
      refine wpDC_e rfl rfl rfl rfl (x_load1V k.v Tryz.isAgg27 Tryz.sizeOf27 rfl (H.getF 4 rfl) (by kernel_rfl) (by kernel_rfl)) ?_
      refine wpDC_e rfl rfl rfl rfl (x_eqlE (a := others[i].k) (b := k) eqKey (by kernel_rfl) rfl rfl rfl rfl) ?_
      refine wpDC_nil ?_
      refine wpF_cond _ rfl (fun hc24 => ?_) (fun hc24 => ?_)
      ·
        refine wpF_seq ?_
        refine wpF_region rfl ?_   -- R5
        refine wpO_val rfl (x_moveI rfl) ?_
        refine wpO_val rfl (x_assignI rfl) ?_
        refine wpO_nil ?_
        refine wpF_ret ?_
        repeat (with_reducible first | refine thenF_r ?_ | refine inBlockF_r ?_)
        refine end_t rfl rfl ?_   -- tmp:4
        exact ⟨by rw [show fidx (fun x => decide (x.k = k)) others = (i : Int) from fidx_some hk' hc24 hall]; rfl, H.sel [0, 1, 2, 3] 5 rfl rfl⟩
      ·
        refine wpF_skip ?_
        refine wpF_region rfl ?_   -- R3
        refine wpO_val rfl (x_moveI rfl) ?_
        refine wpO_val rfl (x_arith rfl rfl (fun _ => rfl) rfl) ?_
        refine wpO_val rfl (x_assignI rfl) ?_
        refine wpO_nil ?_
        refine ⟨others.length - (i + 1), by omega, i + 1, _, ⟨by omega, rfl, ?_⟩, H, updL_eta ⟨rfl, rfl, vi64 (w64 (by omega) (by omega)), trivial⟩⟩
        rw [List.take_succ_eq_append_getElem hk']
        intro x hx
        rcases List.mem_append.1 hx with hx | hx
        · exact hall x hx
        · simp at hx; subst hx; exact hc24
    ·
      have hkk : i = others.length := by have h3 : ¬ (i : Int) < others.length := (by rw [← hlen]; simpa using hc12); omega
      subst hkk
      rw [List.take_length] at hall
      refine wpF_exit ?_   -- exit 0
      refine wpF_seq ?_
      refine wpF_region rfl ?_   -- R6
      refine wpO_val rfl (x_assignI rfl) ?_
      refine wpO_nil ?_
      refine wpF_ret ?_
      repeat (with_reducible first | refine thenF_r ?_ | refine inBlockF_r ?_)
      refine end_t rfl rfl ?_   -- tmp:4
      exact ⟨by rw [show fidx (fun x => decide (x.k = k)) others = -1 from fidx_none hall]; rfl, H.sel [0, 1, 2, 3] 5 rfl rfl⟩
-- >> rHeld_c
-- << rNew_c
theorem rNew_c {c : Cx} {g : Heap} {w : World} {F : List Asn} (self : IK .u8) (n : IK .i64) (H : Holds c g w F) :
    Calls Tryz.prog 22 #[self.v, n.v] w (Ret fun v w' => (newOk self n = false ∧ v = .pointer none ∧ Holds c g w' F) ∨
      (newOk self n = true ∧ ∃ bw, v = .pointer (some ⟨bw, 0, none⟩) ∧ Holds c g w' ((⟨self, n, Sl.nil, Sl.nil, Sl.nil, [], [], []⟩ : Rb).L bw ++ F))) := by
  have H : Holds c g w ([] ++ F) := H
  have hw8 : IntKind.i64.wrap self.n = self.n := w64 (by have := self.u8; omega) (by have := self.u8; omega)
  -- tarmac/tarmacref15.New  (function 22; params ['5', '3']; results tmp:4; ntmps 21)
  refine calls_of_wpF Tryz.func22 rfl Tryz.ntmps22 rfl ?_
  refine wpF_seq ?_
  refine wpF_region rfl ?_   -- R0
  refine wpO_val rfl (x_assignP rfl) ?_
  refine wpO_nil ?_
  refine wpF_seq ?_
  refine wpF_seq ?_
  refine wpF_region rfl ?_   -- R1
  refine wpO_val rfl (x_moveI rfl) ?_
  refine wpO_val rfl (x_cmp rfl rfl rfl rfl) ?_
  refine wpO_val rfl (x_moveB rfl) ?_
  refine wpO_split 7 rfl (fun hb7 => ?_) (fun hb7 => ?_)
  ·
    refine wpO_not rfl ?_
    refine wpO_not rfl ?_
    refine wpO_val rfl (x_pickB rfl rfl) ?_
    refine wpO_val rfl (x_moveB rfl) ?_
    refine wpO_not rfl ?_
    refine wpO_not rfl ?_
    refine wpO_not rfl ?_
    refine wpO_not rfl ?_
    refine wpO_val rfl (x_pickB rfl rfl) ?_
    refine wpO_nil ?_
    refine wpF_true rfl ?_
    refine wpF_seq ?_
    refine wpF_region rfl ?_   -- R2
    refine wpO_val rfl (x_assignP rfl) ?_
    refine wpO_nil ?_
    refine wpF_ret ?_
    repeat (with_reducible first | refine thenF_r ?_ | refine inBlockF_r ?_)
    refine end_t rfl rfl ?_   -- tmp:4
    exact .inl ⟨by unfold newOk; rw [hb7]; rfl, rfl, H.sel [] 0 rfl rfl⟩
  ·
    refine wpO_val rfl (x_moveI rfl) ?_
    refine wpO_val rfl (x_cmp rfl rfl rfl rfl) ?_
    refine wpO_val rfl (x_pickB rfl rfl) ?_
    refine wpO_val rfl (x_moveB rfl) ?_
    refine wpO_split 11 rfl (fun hb11 => ?_) (fun hb11 => ?_)
    ·
      refine wpO_not rfl ?_
      refine wpO_not rfl ?_
      refine wpO_not rfl ?_
      refine wpO_not rfl ?_
      refine wpO_val rfl (x_pickB rfl rfl) ?_
      refine wpO_nil ?_
      refine wpF_true rfl ?_
      refine wpF_seq ?_
      refine wpF_region rfl ?_   -- R2
      refine wpO_val rfl (x_assignP rfl) ?_
      refine wpO_nil ?_
      refine wpF_ret ?_
      repeat (with_reducible first | refine thenF_r ?_ | refine inBlockF_r ?_)
      refine end_t rfl rfl ?_   -- tmp:4
      exact .inl ⟨by unfold newOk; rw [hb11, Bool.or_true]; rfl, rfl, H.sel [] 0 rfl rfl⟩
    ·
      refine wpO_val rfl (x_moveI rfl) ?_
      refine wpO_val rfl (x_conv Tryz.underlying5 Tryz.underlying3 rfl) ?_
      refine wpO_val rfl (x_moveI rfl) ?_
      refine wpO_val rfl (x_cmp rfl rfl rfl rfl) ?_
      refine wpO_val rfl (x_pickB rfl rfl) ?_
      refine wpO_nil ?_
      refine wpF_cond _ rfl (fun hc16 => ?_) (fun hc16 => ?_)
      ·
        refine wpF_seq ?_
        refine wpF_region rfl ?_   -- R2
        refine wpO_val rfl (x_assignP rfl) ?_
        refine wpO_nil ?_
        refine wpF_ret ?_
        repeat (with_reducible first | refine thenF_r ?_ | refine inBlockF_r ?_)
        refine end_t rfl rfl ?_   -- tmp:4
        rw [hw8] at hc16
        exact .inl ⟨by unfold newOk; rw [hc16, Bool.or_true]; rfl, rfl, H.sel [] 0 rfl rfl⟩
      ·
        refine wpF_skip ?_
        refine wpF_seq ?_
        refine wpF_region rfl ?_   -- R3
        refine wpO_val rfl (x_moveI rfl) ?_
        refine wpO_val rfl (x_moveI rfl) ?_
        refine wpO_val rfl (x_buildSt stRbook [self.v, n.v] rfl (cs := (⟨self, n, Sl.nil, Sl.nil, Sl.nil, [], [], []⟩ : Rb).cs) (by kernel_rfl)) ?_
        refine wpO_eff rfl (e_boxA H rfl fun b20 w H => ?_)
        refine wpO_val rfl (x_assignP rfl) ?_
        refine wpO_nil ?_
        refine wpF_ret ?_
        repeat (with_reducible first | refine thenF_r ?_ | refine inBlockF_r ?_)
        refine end_t rfl rfl ?_   -- tmp:4
        rw [hw8] at hc16
        have H := ((H.nilRowAt (E := 62) (m := 17)).nilRowAt (E := 93) (m := 13)).nilRowAt (E := 147) (m := 13)
        exact .inr ⟨by unfold newOk; rw [hb7, hb11, hc16]; rfl, b20, rfl, H.sel [0, 1, 2, 3] 4 rfl rfl⟩
-- >> rNew_c
-- << ahead_c
theorem ahead_c {c : Cx} {g : Heap} {w : World} {F : List Asn} (a b : Key) (H : Holds c g w F) :
    Calls Tryz.prog 77 #[a.v, b.v] w (Ret fun v w' => v = .bool (aheadK a b) ∧ Holds c g w' F) := by
  have H : Holds c g w ([] ++ F) := H
  -- tarmac/tarmacref15.ahead  (function 77; params ['27', '27']; results tmp:4; ntmps 38)
  refine calls_of_wpF Tryz.func77 rfl Tryz.ntmps77 rfl ?_
  refine wpF_seq ?_
  refine wpF_region rfl ?_   -- R0
  refine wpO_eff rfl (e_boxA H rfl fun b2 w H => ?_)
  refine wpO_eff rfl (e_boxA H rfl fun b3 w H => ?_)
  refine wpO_val rfl (x_assignB rfl) ?_
  refine wpO_nil ?_
  refine wpF_seq ?_
  refine wpF_seq ?_
  refine wpF_region rfl ?_   -- R1
  refine wpO_val rfl (x_fieldAddrN Tryz.underlying27 rfl Tryz.sizeOf25 rfl rfl) ?_
  refine wpO_val rfl (x_fieldAddrN Tryz.underlying25 rfl Tryz.sizeOf5 rfl rfl) ?_
  refine wpO_val rfl (x_load0bI Tryz.isAgg5 rfl (H.getF 0 rfl) rfl) ?_
  refine wpO_val rfl (x_fieldAddrN Tryz.underlying27 rfl Tryz.sizeOf25 rfl rfl) ?_
  refine wpO_val rfl (x_fieldAddrN Tryz.underlying25 rfl Tryz.sizeOf5 rfl rfl) ?_
  refine wpO_val rfl (x_load0bI Tryz.isAgg5 rfl (H.getF 1 rfl) rfl) ?_
  refine wpO_val rfl (x_cmp rfl rfl rfl rfl) ?_
  refine wpO_nil ?_
  refine wpF_cond _ rfl (fun hc11 => ?_) (fun hc11 => ?_)
  ·
    refine wpF_seq ?_
    refine wpF_region rfl ?_   -- R2
    refine wpO_val rfl (x_fieldAddrN Tryz.underlying27 rfl Tryz.sizeOf25 rfl rfl) ?_
    refine wpO_val rfl (x_fieldAddrN Tryz.underlying25 rfl Tryz.sizeOf5 rfl rfl) ?_
    refine wpO_val rfl (x_load0bI Tryz.isAgg5 rfl (H.getF 0 rfl) rfl) ?_
    refine wpO_val rfl (x_fieldAddrN Tryz.underlying27 rfl Tryz.sizeOf25 rfl rfl) ?_
    refine wpO_val rfl (x_fieldAddrN Tryz.underlying25 rfl Tryz.sizeOf5 rfl rfl) ?_
    refine wpO_val rfl (x_load0bI Tryz.isAgg5 rfl (H.getF 1 rfl) rfl) ?_
    refine wpO_val rfl (x_cmp rfl rfl rfl rfl) ?_
    refine wpO_val rfl (x_assignB rfl) ?_
    refine wpO_nil ?_
    refine wpF_ret ?_
    repeat (with_reducible first | refine thenF_r ?_ | refine inBlockF_r ?_)
    refine end_t rfl rfl ?_   -- tmp:4
    exact ⟨by rw [aheadK, if_pos hc11]; rfl, H.sel [] 2 rfl rfl⟩
  ·
    refine wpF_skip ?_
    refine wpF_seq ?_
    refine wpF_seq ?_
    refine wpF_region rfl ?_   -- R3
    refine wpO_val rfl (x_fieldAddrN Tryz.underlying27 rfl Tryz.sizeOf25 rfl rfl) ?_
    refine wpO_val rfl (x_fieldAddrN Tryz.underlying25 rfl Tryz.sizeOf23 rfl rfl) ?_
    refine wpO_val rfl (x_load0bI Tryz.isAgg23 rfl (H.getF 0 rfl) rfl) ?_
    refine wpO_val rfl (x_fieldAddrN Tryz.underlying27 rfl Tryz.sizeOf25 rfl rfl) ?_
    refine wpO_val rfl (x_fieldAddrN Tryz.underlying25 rfl Tryz.sizeOf23 rfl rfl) ?_
    refine wpO_val rfl (x_load0bI Tryz.isAgg23 rfl (H.getF 1 rfl) rfl) ?_
    refine wpO_val rfl (x_cmp rfl rfl rfl rfl) ?_
    refine wpO_nil ?_
    refine wpF_cond _ rfl (fun hc25 => ?_) (fun hc25 => ?_)
    ·
      refine wpF_seq ?_
      refine wpF_region rfl ?_   -- R4
      refine wpO_val rfl (x_fieldAddrN Tryz.underlying27 rfl Tryz.sizeOf25 rfl rfl) ?_
      refine wpO_val rfl (x_fieldAddrN Tryz.underlying25 rfl Tryz.sizeOf23 rfl rfl) ?_
      refine wpO_val rfl (x_load0bI Tryz.isAgg23 rfl (H.getF 0 rfl) rfl) ?_
      refine wpO_val rfl (x_fieldAddrN Tryz.underlying27 rfl Tryz.sizeOf25 rfl rfl) ?_
      refine wpO_val rfl (x_fieldAddrN Tryz.underlying25 rfl Tryz.sizeOf23 rfl rfl) ?_
      refine wpO_val rfl (x_load0bI Tryz.isAgg23 rfl (H.getF 1 rfl) rfl) ?_
      refine wpO_val rfl (x_cmp rfl rfl rfl rfl) ?_
      refine wpO_val rfl (x_assignB rfl) ?_
      refine wpO_nil ?_
      refine wpF_ret ?_
      repeat (with_reducible first | refine thenF_r ?_ | refine inBlockF_r ?_)
      refine end_t rfl rfl ?_   -- tmp:4
      exact ⟨by rw [aheadK, if_neg (by rw [hc11]; decide), if_pos hc25]; rfl, H.sel [] 2 rfl rfl⟩
    ·
      refine wpF_skip ?_
      refine wpF_seq ?_
      refine wpF_region rfl ?_   -- R5
      refine wpO_val rfl (x_fieldAddrN Tryz.underlying27 rfl Tryz.sizeOf5 rfl rfl) ?_
      refine wpO_val rfl (x_load0bI Tryz.isAgg5 rfl (H.getF 0 rfl) rfl) ?_
      refine wpO_val rfl (x_fieldAddrN Tryz.underlying27 rfl Tryz.sizeOf5 rfl rfl) ?_
      refine wpO_val rfl (x_load0bI Tryz.isAgg5 rfl (H.getF 1 rfl) rfl) ?_
      refine wpO_val rfl (x_cmp rfl rfl rfl rfl) ?_
      refine wpO_val rfl (x_assignB rfl) ?_
      refine wpO_nil ?_
      refine wpF_ret ?_
      repeat (with_reducible first | refine thenF_r ?_ | refine inBlockF_r ?_)
      refine end_t rfl rfl ?_   -- tmp:4
      exact ⟨by rw [aheadK, if_neg (by rw [hc11]; decide), if_neg (by rw [hc25]; decide)]; rfl, H.sel [] 2 rfl rfl⟩
-- >> ahead_c
def Rb.tick (W : Rb) : Ticket := ⟨W.self, IK.of .u64 (IntKind.i64.wrap ((W.ds.len : Int) + 1))⟩
def Rb.issueE (W : Rb) (s : SaleP) (legs : List Leg) (taxes : List Tax) : Int := if 32 ≤ W.ds.len then 3 else rMakeErr W.tick s legs taxes W.n.n
def putL (t : Ticket) (legs : List Leg) (ys : List (IK .i64)) : Nat → List Mine
  | 0 => []
  | k + 1 => putL t legs ys k ++ [⟨⟨t, IK.of .u8 k⟩, newOwn (legs.getD k Leg.zero) (ys.getD k (IK.lit .i64 0))⟩]
theorem putL_len (t : Ticket) (legs : List Leg) (ys : List (IK .i64)) : ∀ k, (putL t legs ys k).length = k
  | 0 => rfl
  | k + 1 => by simp [putL, putL_len t legs ys k]
def rDoc (t : Ticket) (s : SaleP) (sv : Sl) : DocP := { DocP.zero with t := t, s := s, vals := sv, paid := s.fare }
def RkR (g g' : Heap) (W : Rb) (s : SaleP) (legs : List Leg) (taxes : List Tax) (v : Value) (d : DocP) (e : Int) : Prop :=
  v = .tuple #[d.v, .int .i64 e] ∧ Le g g' ∧ e = rMakeErr W.tick s legs taxes W.n.n ∧ (e = 0 → ∃ (sv : Sl) (vals : List Int), d = rDoc W.tick s sv ∧ SlR g' encI 1 sv vals ∧ RVals s.fare.n (legs.map fun l => l.wt.n) vals ∧ vals.length = legs.length)
def RsL (W : Rb) (bw b3 b4 : Nat) (s : SaleP) : List Asn := W.L bw ++ [pt b3 (.cells s.v.cells 59), pt b4 (.cells DocP.zero.v.cells 62)]
def RsS (c : Cx) (g : Heap) (F : List Asn) (W : Rb) (bw b3 b4 : Nat) (s : SaleP) (legs : List Leg) (taxes : List Tax) (r : Option Value) (vs : List Value) (w : World) : Prop :=
  match r, vs with
  | none, [] => Holds c g w (RsL W bw b3 b4 s ++ F)
  | some x, [] => ∃ b6, x = .pointer (some ⟨b6, 0, none⟩) ∧ Holds c g w ((RsL W bw b3 b4 s ++ [pt b6 (.cells DocP.zero.v.cells 62)]) ++ F)
  | none, [v] => ∃ g' d e, RkR g g' W s legs taxes v d e ∧ Holds c g' w (RsL W bw b3 b4 s ++ F)
  | some x, [v] => ∃ b6 g' d e, x = .pointer (some ⟨b6, 0, none⟩) ∧ RkR g g' W s legs taxes v d e ∧ Holds c g' w ((RsL W bw b3 b4 s ++ [pt b6 (.cells DocP.zero.v.cells 62)]) ++ F)
  | some x, [v, _] => ∃ b6 g' d e, x = .pointer (some ⟨b6, 0, none⟩) ∧ RkR g g' W s legs taxes v d e ∧ Holds c g' w ((RsL W bw b3 b4 s ++ [pt b6 (.cells d.v.cells 62)]) ++ F)
  | _, _ => False
theorem rsMake {c : Cx} {g : Heap} {w : World} {F : List Asn} (W : Rb) (s : SaleP) (legs : List Leg) (taxes : List Tax) (hs : SaleR g s legs taxes) (hn : s.name.length ≤ 1000) (hl : legs.length ≤ 1000) (ht : taxes.length ≤ 1000) (H : Holds c g w F) :
    Calls Tryz.prog 70 #[W.tick.v, s.v, W.n.v] w (Ret fun v w' => ∃ g' d e, RkR g g' W s legs taxes v d e ∧ Holds c g' w' F) := by
  refine (rMake_c W.tick s legs taxes W.n.n hs hn hl ht H).mono (Ret.mono ?_)
  rintro v w ⟨g', hle, H, ⟨h0, rfl⟩ | ⟨h0, sv, vals, rfl, h1, h2, h3⟩⟩
  · exact ⟨g', DocP.zero, _, ⟨rfl, hle, rfl, fun h => absurd h h0⟩, H⟩
  · exact ⟨g', rDoc W.tick s sv, 0, ⟨rfl, hle, h0.symm, fun _ => ⟨sv, vals, rfl, h1, h2, h3⟩⟩, H⟩
theorem rMakeErr_ok {t : Ticket} {s : SaleP} {legs : List Leg} {taxes : List Tax} {n : Int} (h : rMakeErr t s legs taxes n = 0) : (1 ≤ legs.length ∧ legs.length ≤ 4) ∧ (0 ≤ s.fare.n ∧ s.fare.n ≤ 1125899906842624) ∧ ∀ l ∈ legs, 1 ≤ l.wt.n := by
  unfold rMakeErr at h
  split at h
  · omega
  · exact rCheck_ok h
theorem int_ik : ∀ vals : List Int, (∀ v ∈ vals, 0 ≤ v ∧ v ≤ 1125899906842624 + 4) → ∃ ys : List (IK .i64), vals = ys.map (·.n)
  | [], _ => ⟨[], rfl⟩
  | v :: r, hb => by
    obtain ⟨ys, rfl⟩ := int_ik r fun x hx => hb x (by simp [hx])
    have := hb v (by simp)
    exact ⟨⟨v, by simp [IntKind.min, IntKind.signed, IntKind.bits]; omega, by simp [IntKind.max, IntKind.signed, IntKind.bits]; omega⟩ :: ys, rfl⟩
theorem rvals_bounds {fare : Int} {W vals : List Int} (hf : 0 ≤ fare ∧ fare ≤ 1125899906842624) (hW0 : ∀ x ∈ W, 0 ≤ x) (hs : 1 ≤ W.sum) (hl : W.length ≤ 4) (h : RVals fare W vals) : ∀ v ∈ vals, 0 ≤ v ∧ v ≤ 1125899906842624 + 4 := by
  obtain ⟨S, _, hlen, rfl⟩ := h
  have hlb := leftOf_bounds hf.1 hs rfl hW0
  have hws : ∀ o ∈ whs fare W.sum W, 0 ≤ o ∧ o ≤ fare + 0 := by
    intro o ho
    obtain ⟨x, hx, rfl⟩ := List.mem_map.1 ho
    have h1 := le_sum hW0
    have h2 := h1.2 x hx
    have h3 := hW0 x hx
    have h4 : 0 ≤ fare * x := Int.mul_nonneg hf.1 h3
    refine ⟨Int.ediv_nonneg h4 h1.1, ?_⟩
    rw [Int.add_zero]
    exact Int.ediv_le_of_le_mul (by omega) (Int.mul_le_mul_of_nonneg_left h2 hf.1)
  intro v hv
  have := give_le (M := fare) _ _ 0 hws (by omega) hf.1 v hv
  omega
theorem rvals_ik {fare : IK .i64} {legs : List Leg} {vals : List Int} (hf : 0 ≤ fare.n ∧ fare.n ≤ 1125899906842624) (hw : ∀ l ∈ legs, 1 ≤ l.wt.n) (hl : 1 ≤ legs.length ∧ legs.length ≤ 4) (h : RVals fare.n (legs.map fun l => l.wt.n) vals) : ∃ ys : List (IK .i64), vals = ys.map (·.n) := by
  have hW0 : ∀ x ∈ legs.map (fun l => l.wt.n), 1 ≤ x := by
    intro x hx
    obtain ⟨l, hl, rfl⟩ := List.mem_map.1 hx
    exact hw l hl
  refine int_ik vals (rvals_bounds hf (fun x hx => by have := hW0 x hx; omega) ?_ (by simp; omega) h)
  obtain ⟨l, r, rfl⟩ : ∃ l r, legs = l :: r := by
    cases legs with
    | nil => simp at hl
    | cons l r => exact ⟨l, r, rfl⟩
  have h1 := (le_sum (W := (l :: r).map fun l => l.wt.n) fun x hx => by have := hW0 x hx; omega).2 l.wt.n (by simp)
  have h2 := hw l (by simp)
  omega
-- << rIssue_c
theorem rIssue_c {c : Cx} {g : Heap} {w : World} {F : List Asn} {bw : Nat} (W : Rb) (s : SaleP) (legs : List Leg) (taxes : List Tax) (hb : W.owns.length ≤ 100000) (hs : SaleR g s legs taxes) (hn : s.name.length ≤ 1000) (hl : legs.length ≤ 1000) (ht : taxes.length ≤ 1000) (H : Holds c g w (W.L bw ++ F)) :
    Calls Tryz.prog 24 #[.pointer (some ⟨bw, 0, none⟩), s.v] w (Ret fun v w' => ∃ g', Le g g' ∧
      ((W.issueE s legs taxes ≠ 0 ∧ v = .tuple #[DocP.zero.v, .int .i64 (W.issueE s legs taxes)] ∧ Holds c g' w' (W.L bw ++ F)) ∨
       (W.issueE s legs taxes = 0 ∧ ∃ (sv : Sl) (ys : List (IK .i64)) (sd so : Sl), v = .tuple #[DocP.v (rDoc W.tick s sv), .int .i64 0] ∧ SlR g' encI 1 sv (ys.map (·.n)) ∧ RVals s.fare.n (legs.map fun l => l.wt.n) (ys.map (·.n)) ∧ ys.length = legs.length ∧
         Holds c g' w' (({ W with ds := sd, os := so, docs := W.docs ++ [rDoc W.tick s sv], owns := W.owns ++ putL W.tick legs ys ys.length } : Rb).L bw ++ F)))) := by
  have hdl : W.ds.len = W.docs.length := (Holds.rowShape (L := W.L bw) H 1 rfl (fun _ => rfl) rfl).1
  have hll := hs.l.len
  -- (*tarmac/tarmacref15.Book).Issue  (function 24; params ['38', '59']; results cell:4 62 tmp:5; ntmps 86)
  refine calls_of_wpF Tryz.func24 rfl Tryz.ntmps24 rfl ?_
  refine wpF_seq ?_
  refine wpF_region rfl ?_   -- R0
  refine wpO_eff rfl (e_boxA H rfl fun b3 w H => ?_)
  refine wpO_eff rfl (e_alloc H Tryz.zeroValue62 fun b4 w H => ?_)
  refine wpO_val rfl (x_assignI rfl) ?_
  refine wpO_nil ?_
  refine wpF_seq ?_
  refine wpF_seq ?_
  refine wpF_region rfl ?_   -- R1
  refine wpO_val rfl (x_moveP rfl) ?_
  refine wpO_val rfl (x_nilCheck rfl) ?_
  refine wpO_val rfl (x_fieldAddrN Tryz.underlying90 rfl Tryz.sizeOf86 rfl rfl) ?_
  refine wpO_val rfl (x_load0bL Tryz.isAgg86 rfl (H.getF 0 rfl) rfl) ?_
  refine wpO_val rfl (x_lenSl Tryz.underlying86 rfl) ?_
  refine wpO_val rfl (x_cmp rfl rfl rfl rfl) ?_
  refine wpO_nil ?_
  refine wpF_cond _ rfl (fun hc14 => ?_) (fun hc14 => ?_)
  ·
    refine wpF_seq ?_
    refine wpF_region rfl ?_   -- R2
    refine wpO_val rfl (x_buildSt stDoc [] rfl (cs := (DocP.zero.v).cells) (by kernel_rfl)) ?_
    refine wpO_eff0 rfl (e_storeAll (v := DocP.zero.v) H 5 rfl Tryz.sizeOf62 rfl rfl rfl rfl (by kernel_rfl) fun w H => ?_)
    refine wpO_val rfl (x_assignI rfl) ?_
    refine wpO_nil ?_
    refine wpF_ret ?_
    repeat (with_reducible first | refine thenF_r ?_ | refine inBlockF_r ?_)
    refine end_ct rfl rfl rfl Tryz.isAgg62 Tryz.sizeOf62 (H.getF 5 rfl) rfl ?_   -- cell:4 62 tmp:5
    have h32 : 32 ≤ W.ds.len := by simp at hc14; omega
    have hE : W.issueE s legs taxes = 3 := by rw [Rb.issueE, if_pos h32]
    exact ⟨g, Le.refl g, .inl ⟨by rw [hE]; decide, by rw [hE]; rfl, H.sel [0, 1, 2, 3] 6 rfl rfl⟩⟩
  ·
    have h32 : ¬ 32 ≤ W.ds.len := by simp at hc14; omega
    have hE : W.issueE s legs taxes = rMakeErr W.tick s legs taxes W.n.n := by rw [Rb.issueE, if_neg h32]
    refine wpF_skip ?_
    refine wpF_seq ?_
    -- R3 DRAWS; effects [(17, 'call'), (22, 'store')] float 21
    refine wpF_draw [0, 1, 2, 3, 4, 5, 6, 7, 8, 9, 10, 11, 12, 13, 14, 15, 16, 17, 18, 19, 20, 21, 22, 23] 21 (fun i => Nat.beq i 17 || Nat.beq i 22) (fun w => Has c w (RsL W bw b3 b4 s)) (RsS c g F W bw b3 b4 s legs taxes) mixed (by kernel_rfl) rfl ?hR (H.drew _) ?_
    case hR =>
      intro r vs w h
      match r, vs, h with
      | none, [], h => exact Holds.has h
      | some _, [], ⟨_, _, h⟩ => exact ⟨g, _, by rw [← List.append_assoc]; exact h⟩
      | none, [_], ⟨_, _, _, _, h⟩ => exact Holds.has h
      | some _, [_], ⟨_, _, _, _, _, _, h⟩ => exact ⟨_, _, by rw [← List.append_assoc]; exact h⟩
      | some _, [_, _], ⟨_, _, _, _, _, _, h⟩ => exact ⟨_, _, by rw [← List.append_assoc]; exact h⟩
      | none, _ :: _ :: _, h => exact h.elim
      | some _, _ :: _ :: _ :: _, h => exact h.elim
    refine wpDF_quiet rfl rfl rfl rfl (fun w HR => (x_moveP rfl)) ?_
    refine wpDF_quiet rfl rfl rfl rfl (fun w HR => (x_nilCheck rfl)) ?_
    refine wpDF_quiet rfl rfl rfl rfl (fun w HR => (x_fieldAddrN Tryz.underlying90 rfl Tryz.sizeOf5 rfl rfl)) ?_
    refine wpDF_quiet rfl rfl rfl rfl (fun w HR => (x_load0bI Tryz.isAgg5 rfl (HR.get 0 rfl) rfl)) ?_
    refine wpDF_quiet rfl rfl rfl rfl (fun w HR => (x_moveP rfl)) ?_
    refine wpDF_quiet rfl rfl rfl rfl (fun w HR => (x_nilCheck rfl)) ?_
    refine wpDF_quiet rfl rfl rfl rfl (fun w HR => (x_fieldAddrN Tryz.underlying90 rfl Tryz.sizeOf86 rfl rfl)) ?_
    refine wpDF_quiet rfl rfl rfl rfl (fun w HR => (x_load0bL Tryz.isAgg86 rfl (HR.get 0 rfl) rfl)) ?_
    refine wpDF_quiet rfl rfl rfl rfl (fun w HR => (x_lenSl Tryz.underlying86 rfl)) ?_
    refine wpDF_quiet rfl rfl rfl rfl (fun w HR => (x_arith rfl rfl (fun _ => rfl) rfl)) ?_
    refine wpDF_quiet rfl rfl rfl rfl (fun w HR => (x_conv Tryz.underlying3 Tryz.underlying23 rfl)) ?_
    refine wpDF_quiet rfl rfl rfl rfl (fun w HR => (x_buildSt stTicket [W.self.v, W.tick.ser.v] rfl (cs := W.tick.v.cells) (by kernel_rfl))) ?_
    refine wpDF_quiet rfl rfl rfl rfl (fun w HR => (x_load1V s.v Tryz.isAgg59 Tryz.sizeOf59 rfl (HR.get 4 rfl) (by kernel_rfl) (by kernel_rfl))) ?_
    refine wpDF_quiet rfl rfl rfl rfl (fun w HR => (x_moveP rfl)) ?_
    refine wpDF_quiet rfl rfl rfl rfl (fun w HR => (x_nilCheck rfl)) ?_
    refine wpDF_quiet rfl rfl rfl rfl (fun w HR => (x_fieldAddrN Tryz.underlying90 rfl Tryz.sizeOf3 rfl rfl)) ?_
    refine wpDF_quiet rfl rfl rfl rfl (fun w HR => (x_load0bI Tryz.isAgg3 rfl (HR.get 0 rfl) rfl)) ?_
    refine wpDF_eff rfl rfl rfl rfl (fun r w hr H => ?_) (fun v hv => ?_)   -- 17: Make
    · cases r with
      | none => exact e_callF (vs := [W.tick.v, s.v, W.n.v]) Tryz.call70 rfl (rsMake W s legs taxes hs hn hl ht H)
      | some x =>
        obtain ⟨b6, hx, H⟩ := H
        exact e_callF (vs := [W.tick.v, s.v, W.n.v]) Tryz.call70 rfl ((rsMake W s legs taxes hs hn hl ht H).mono (Ret.mono fun v w ⟨g', d, e, h1, h2⟩ => ⟨b6, g', d, e, hx, h1, h2⟩))
    have hv : ∃ d e, v = .tuple #[DocP.v d, .int .i64 e] := by
      obtain ⟨r, w, h⟩ := hv
      match r, h with
      | none, ⟨_, d, e, h, _⟩ => exact ⟨d, e, h.1⟩
      | some _, ⟨_, _, d, e, _, h, _⟩ => exact ⟨d, e, h.1⟩
    obtain ⟨d, e, rfl⟩ := hv
    refine wpDF_quiet rfl rfl rfl rfl (fun w HR => (x_moveT rfl)) ?_
    refine wpDF_quiet rfl rfl rfl rfl (fun w HR => (x_extract (v := d.v) rfl rfl)) ?_
    refine wpDF_quiet rfl rfl rfl rfl (fun w HR => (x_extractI rfl rfl)) ?_
    refine wpDF_float rfl rfl (fun vs w H => ?_) (fun x hv => ?_)   -- 21: alloc
    · match vs, H with
      | [], H => exact e_alloc H Tryz.zeroValue62 fun b w H => ⟨b, rfl, H⟩
      | [v], ⟨g', d, e, h1, H⟩ => exact e_alloc H Tryz.zeroValue62 fun b w H => ⟨b, g', d, e, rfl, h1, H⟩
      | _ :: _ :: _, H => exact H.elim
    have hv : ∃ b6, x = .pointer (some ⟨b6, 0, none⟩) := by
      obtain ⟨vs, w, h⟩ := hv
      match vs, h with
      | [], ⟨b6, h, _⟩ => exact ⟨b6, h⟩
      | [_], ⟨b6, _, _, _, h, _⟩ => exact ⟨b6, h⟩
      | [_, _], ⟨b6, _, _, _, h, _⟩ => exact ⟨b6, h⟩
      | _ :: _ :: _ :: _, h => exact h.elim
    obtain ⟨b6, rfl⟩ := hv
    refine wpDF_eff rfl rfl rfl rfl (fun r w hr H => ?_) (fun v hv => ?_)   -- 22: store
    · obtain rfl := hr rfl
      obtain ⟨_, g', d', e', h2, h1, H⟩ := H
      cases h2
      have hd : d' = d := by
        have := h1.1
        injection this with this
        simp only [Array.mk.injEq, List.cons.injEq] at this
        exact (DocP.v_inj this.1).symm
      subst hd
      exact e_storeAll (v := DocP.v d') H 6 rfl Tryz.sizeOf62 rfl rfl rfl rfl (by kernel_rfl) fun w H => ⟨b6, g', d', e', rfl, h1, H⟩
    refine wpDF_quiet rfl rfl rfl rfl (fun w HR => (x_assignI rfl)) ?_
    refine wpDF_nil fun w H => ?_
    obtain ⟨_, g', d', e', h2, ⟨h1, hle, he, hok⟩, H⟩ := H
    cases h2
    obtain ⟨hd, hee⟩ : d = d' ∧ e = e' := by
      injection h1 with h1
      simp only [Array.mk.injEq, List.cons.injEq] at h1
      refine ⟨DocP.v_inj h1.1, ?_⟩
      have := h1.2.1
      injection this
    subst hd; subst hee
    replace H : Holds c g' w ((W.L bw ++ [pt b3 (.cells s.v.cells 59), pt b4 (.cells DocP.zero.v.cells 62), pt b6 (.cells d.v.cells 62)]) ++ F) := H
    refine wpF_seq ?_
    refine wpF_seq ?_
    refine wpF_region rfl ?_   -- R4
    refine wpO_val rfl (x_moveI rfl) ?_
    refine wpO_val rfl (x_cmp rfl rfl rfl rfl) ?_
    refine wpO_nil ?_
    refine wpF_cond _ rfl (fun hc38 => ?_) (fun hc38 => ?_)
    ·
      refine wpF_seq ?_
      refine wpF_region rfl ?_   -- R5
      refine wpO_val rfl (x_buildSt stDoc [] rfl (cs := (DocP.zero.v).cells) (by kernel_rfl)) ?_
      refine wpO_val rfl (x_moveI rfl) ?_
      refine wpO_eff0 rfl (e_storeAll (v := DocP.zero.v) H 5 rfl Tryz.sizeOf62 rfl rfl rfl rfl (by kernel_rfl) fun w H => ?_)
      refine wpO_val rfl (x_assignI rfl) ?_
      refine wpO_nil ?_
      refine wpF_ret ?_
      repeat (with_reducible first | refine thenF_r ?_ | refine inBlockF_r ?_)
      refine end_ct rfl rfl rfl Tryz.isAgg62 Tryz.sizeOf62 (H.getF 5 rfl) rfl ?_   -- cell:4 62 tmp:5
      have h0 : W.issueE s legs taxes ≠ 0 := by rw [hE, ← he]; simpa using hc38
      exact ⟨g', hle, .inl ⟨h0, by rw [hE, ← he]; rfl, H.sel [0, 1, 2, 3] 7 rfl rfl⟩⟩
    ·
      have h0 : e = 0 := by simpa using hc38
      obtain ⟨sv, vals, rfl, hsv, hrv, hvl⟩ := hok h0
      obtain ⟨hlb, hf, hw1⟩ := rMakeErr_ok (he.symm.trans h0)
      obtain ⟨ys, rfl⟩ := rvals_ik hf hw1 hlb hrv
      have hylen : ys.length = legs.length := by simpa using hvl
      have hvl2 : sv.len = ys.length := by have := hsv.len; simpa using this
      have hol : W.os.len = W.owns.length := (Holds.rowShape H 2 rfl (fun _ => rfl) rfl).1
      obtain ⟨D, hD⟩ : ∃ D, D = rDoc W.tick s sv := ⟨_, rfl⟩
      refine wpF_skip ?_
      refine wpF_seq ?_
      refine wpF_drawC [0, 1, 2, 3, 4, 5, 6, 7, 8, 9, 10] [6, 7, 10] [2, 1, 1, 1, 1, 0, 3, 3, 2, 2, 3] (RH 1 c (W.L bw ++ [])) mixed (by kernel_rfl) rfl fun w hw => ?_   -- R6 DRAWS [(6, 'buildSlice'), (7, 'call'), (10, 'store')]
      have H := H.to hw
      have H0 : Has c w (W.L bw ++ []) := Holds.has (F := F) (Holds.sel H [0, 1, 2, 3] 7 rfl rfl)
      refine wpDC_q rfl rfl rfl (fun w => (x_moveP rfl)) ?_
      refine wpDC_q rfl rfl rfl (fun w => (x_moveP rfl)) ?_
      refine wpDC_q rfl rfl rfl (fun w => (x_nilCheck rfl)) ?_
      refine wpDC_q rfl rfl rfl (fun w => (x_fieldAddrN Tryz.underlying90 rfl Tryz.sizeOf86 rfl rfl)) ?_
      refine wpDC_h rfl rfl rfl rfl rfl H0 (fun w HR => (x_load0bL Tryz.isAgg86 rfl (HR.get 0 rfl) rfl)) ?_
      refine wpDC_e rfl rfl rfl rfl (x_load1V (rDoc W.tick s sv).v Tryz.isAgg62 Tryz.sizeOf62 rfl (H.getF 6 rfl) (by kernel_rfl) (by kernel_rfl)) ?_
      refine wpDC_eff rfl rfl rfl (e_buildSlice H Tryz.underlying86 Tryz.sizeOf62 Tryz.zeroValue62 rfl rfl (vs := [(rDoc W.tick s sv).v]) (by kernel_rfl) (by kernel_rfl) (cs := (rDoc W.tick s sv).v.cells.toList) (by kernel_rfl) fun b47 w H => ⟨fun _ => Holds.has (L := (W.L bw ++ [])) (F := F) (Holds.sel H [0, 1, 2, 3] 8 rfl rfl), ?_⟩)
      refine wpDC_eff rfl rfl rfl (e_append1 (enc := DocP.v) (rDoc W.tick s sv) H 1 7 rfl rfl Tryz.underlying86 isDoc rfl rfl rfl rfl (by omega) (by omega) fun s48 w hs48 hn48 H => ⟨fun h => absurd h (by decide), ?_⟩)
      refine wpDC_q rfl rfl rfl (fun w => (x_nilCheck rfl)) ?_
      refine wpDC_q rfl rfl rfl (fun w => (x_fieldAddrN Tryz.underlying90 rfl Tryz.sizeOf86 rfl rfl)) ?_
      refine wpDC_eff0 rfl rfl rfl (e_store H 0 rfl Tryz.sizeOf86 rfl rfl rfl rfl rfl fun w H => ⟨fun h => absurd h (by decide), ?_⟩)
      refine wpDC_nil ?_
      replace H : Holds c g' w ((({ W with ds := s48, docs := W.docs ++ [rDoc W.tick s sv] } : Rb).L bw ++ [pt b3 (.cells s.v.cells 59), pt b4 (.cells DocP.zero.v.cells 62), pt b6 (.cells (rDoc W.tick s sv).v.cells 62)]) ++ F) := H.sel [0, 1, 2, 3, 4, 5, 6] 8 rfl rfl
      refine wpF_seq ?_
      refine wpF_seq ?_
      refine wpF_region rfl ?_   -- R7
      refine wpO_val rfl (x_assignI rfl) ?_
      refine wpO_nil ?_
      refine wpF_block ?_   -- block 0
      refine wpF_loop (fun n f w => ∃ (k : Nat) (so : Sl) (f0 : Fr), (k ≤ ys.length ∧ n = ys.length - k ∧ so.len = W.owns.length + k) ∧ Holds c g' w ((({ W with ds := s48, os := so, docs := W.docs ++ [rDoc W.tick s sv], owns := W.owns ++ putL W.tick legs ys k } : Rb).L bw ++ [pt b3 (.cells s.v.cells 59), pt b4 (.cells DocP.zero.v.cells 62), pt b6 (.cells (rDoc W.tick s sv).v.cells 62)]) ++ F) ∧ f = updL f0 [(0, .pointer (some ⟨bw, 0, none⟩)), (3, .pointer (some ⟨b3, 0, none⟩)), (4, .pointer (some ⟨b4, 0, none⟩)), (6, .pointer (some ⟨b6, 0, none⟩)), (8, .int .i64 (k : Nat))]) ys.length ?_ ?_
      · exact ⟨0, W.os, _, ⟨by omega, by omega, by omega⟩, by rw [show W.owns ++ putL W.tick legs ys 0 = W.owns from by simp [putL]]; exact H, updL_eta ⟨rfl, rfl, rfl, rfl, rfl, trivial⟩⟩
      · rintro n f w ⟨k, so, f0, ⟨hk, hn', hsol⟩, H, rfl⟩
        refine wpF_seq ?_
        refine wpF_seq ?_
        refine wpF_region rfl ?_   -- R8
        refine wpO_val rfl (x_moveI rfl) ?_
        refine wpO_val rfl (x_fieldAddrN Tryz.underlying62 rfl Tryz.sizeOf60 rfl rfl) ?_
        refine wpO_val rfl (x_load0bL Tryz.isAgg60 rfl (H.getF 6 rfl) rfl) ?_
        refine wpO_val rfl (x_lenSl Tryz.underlying60 rfl) ?_
        refine wpO_val rfl (x_cmp rfl rfl rfl rfl) ?_
        refine wpO_nil ?_
        refine wpF_cond _ rfl (fun hc55 => ?_) (fun hc55 => ?_)
        ·
          have hk' : k < ys.length := by rw [← hvl2]; simpa [rDoc] using hc55
          have hkl : k < legs.length := by omega
          have hkm : k < (ys.map (·.n)).length := by simpa using hk'
          have hgy : (ys.map (·.n))[k]? = some ys[k].n := by simp [hk']
          have hL : legs.getD k Leg.zero = legs[k] := by simp [hkl]
          have hY : ys.getD k (IK.lit .i64 0) = ys[k] := by simp [hk']
          obtain ⟨M, hM⟩ : ∃ M : Mine, M = ⟨⟨W.tick, IK.of .u8 k⟩, newOwn legs[k] ys[k]⟩ := ⟨_, rfl⟩
          obtain ⟨W2, hW2⟩ : ∃ W2 : Rb, W2 = { W with ds := s48, os := so, docs := W.docs ++ [rDoc W.tick s sv], owns := W.owns ++ putL W.tick legs ys k } := ⟨_, rfl⟩
          refine wpF_skip ?_
          refine wpF_seq ?_
          refine wpF_block ?_   -- block 1
          refine wpF_drawC [0, 1, 2, 3, 4, 5, 6, 7, 8, 9, 10, 11, 12, 13, 14, 15, 16, 17, 18, 19, 20, 21, 22, 23, 24, 25, 26, 27] [23, 24, 27] [2, 1, 1, 1, 1, 0, 0, 0, 0, 0, 0, 0, 0, 0, 0, 0, 0, 0, 0, 0, 0, 0, 0, 3, 3, 2, 2, 3] (RH 1 c [pt bw (.cells #[W.self.v, W.n.v, s48.v, so.v, W.hs.v] 90)]) mixed (by kernel_rfl) rfl fun w hw => ?_
          have H := H.to hw
          have H0 : Has c w [pt bw (.cells #[W.self.v, W.n.v, s48.v, so.v, W.hs.v] 90)] := Holds.has (F := F) (Holds.sel H [0] 7 rfl rfl)
          refine wpDC_q rfl rfl rfl (fun w => (x_moveP rfl)) ?_
          refine wpDC_q rfl rfl rfl (fun w => (x_moveP rfl)) ?_
          refine wpDC_q rfl rfl rfl (fun w => (x_nilCheck rfl)) ?_
          refine wpDC_q rfl rfl rfl (fun w => (x_fieldAddrN Tryz.underlying90 rfl Tryz.sizeOf87 rfl rfl)) ?_
          refine wpDC_h rfl rfl rfl rfl rfl H0 (fun w HR => (x_load0bL Tryz.isAgg87 rfl (HR.get 0 rfl) rfl)) ?_
          refine wpDC_e rfl rfl rfl rfl (x_fieldAddrN Tryz.underlying62 rfl Tryz.sizeOf25 rfl rfl) ?_
          refine wpDC_e rfl rfl rfl rfl (x_load1V W.tick.v Tryz.isAgg25 Tryz.sizeOf25 rfl (H.getF 6 rfl) (by kernel_rfl) (by kernel_rfl)) ?_
          refine wpDC_e rfl rfl rfl rfl (x_moveI rfl) ?_
          refine wpDC_e rfl rfl rfl rfl (x_conv Tryz.underlying3 Tryz.underlying5 rfl) ?_
          refine wpDC_e rfl rfl rfl rfl (x_buildSt stKey [W.tick.v, (IK.of .u8 k).v] rfl (cs := (Key.v ⟨W.tick, IK.of .u8 k⟩).cells) (by kernel_rfl)) ?_
          refine wpDC_e rfl rfl rfl rfl (x_fieldAddrN Tryz.underlying59 rfl Tryz.sizeOf56 rfl rfl) ?_
          refine wpDC_e rfl rfl rfl rfl (x_load0bL Tryz.isAgg56 rfl (H.getF 4 rfl) rfl) ?_
          refine wpDC_e rfl rfl rfl rfl (x_moveI rfl) ?_
          refine wpDC_e rfl rfl rfl rfl (x_indexEl (hs.l.mono hle) Tryz.underlying56 Tryz.sizeOf31 rfl rfl (by omega) (by omega)) ?_
          refine wpDC_e rfl rfl rfl rfl (x_loadEl elLeg (hs.l.mono hle) H rfl (List.getElem?_eq_getElem hkl)) ?_
          refine wpDC_e rfl rfl rfl rfl (x_fieldAddrN Tryz.underlying62 rfl Tryz.sizeOf60 rfl rfl) ?_
          refine wpDC_e rfl rfl rfl rfl (x_load0bL Tryz.isAgg60 rfl (H.getF 6 rfl) rfl) ?_
          refine wpDC_e rfl rfl rfl rfl (x_moveI rfl) ?_
          refine wpDC_e rfl rfl rfl rfl (x_indexEl hsv Tryz.underlying60 Tryz.sizeOf2 rfl rfl (by omega) (by omega)) ?_
          refine wpDC_e rfl rfl rfl rfl (x_loadEl elint64 hsv H rfl hgy) ?_
          refine wpDC_e rfl rfl rfl rfl (x_buildSt stCoupon [legs[k].v, ys[k].v, .int .u8 1] rfl (cs := (newOwn legs[k] ys[k]).c.v.cells) (by kernel_rfl)) ?_
          refine wpDC_e rfl rfl rfl rfl (x_buildSt stOwn [(newOwn legs[k] ys[k]).c.v] rfl (cs := (newOwn legs[k] ys[k]).v.cells) (by kernel_rfl)) ?_
          refine wpDC_e rfl rfl rfl rfl (x_buildSt stMine [Key.v ⟨W.tick, IK.of .u8 k⟩, (newOwn legs[k] ys[k]).v] rfl (cs := (Mine.v ⟨⟨W.tick, IK.of .u8 k⟩, newOwn legs[k] ys[k]⟩).cells) (by kernel_rfl)) ?_
          refine wpDC_eff rfl rfl rfl (e_buildSlice H Tryz.underlying87 Tryz.sizeOf93 Tryz.zeroValue93 rfl rfl (vs := [Mine.v ⟨⟨W.tick, IK.of .u8 k⟩, newOwn legs[k] ys[k]⟩]) (by kernel_rfl) (by kernel_rfl) (cs := (Mine.v ⟨⟨W.tick, IK.of .u8 k⟩, newOwn legs[k] ys[k]⟩).cells.toList) (by kernel_rfl) fun b81 w H => ⟨fun _ => Holds.has (F := F) (Holds.sel H [0] 8 rfl rfl), ?_⟩)
          refine wpDC_eff rfl rfl rfl (e_append1 (enc := Mine.v) (⟨⟨W.tick, IK.of .u8 k⟩, newOwn legs[k] ys[k]⟩ : Mine) H 2 7 rfl rfl Tryz.underlying87 isMine rfl rfl rfl rfl (by show (so.len + 1) * 56 ≤ _; omega) (by show so.len + 1 ≤ _; omega) fun s82 w hs82 hn82 H => ⟨fun h => absurd h (by decide), ?_⟩)
          refine wpDC_q rfl rfl rfl (fun w => (x_nilCheck rfl)) ?_
          refine wpDC_q rfl rfl rfl (fun w => (x_fieldAddrN Tryz.underlying90 rfl Tryz.sizeOf87 rfl rfl)) ?_
          refine wpDC_eff0 rfl rfl rfl (e_store H 0 rfl Tryz.sizeOf87 rfl rfl rfl rfl rfl fun w H => ⟨fun h => absurd h (by decide), ?_⟩)
          refine wpDC_nil ?_
          have hP : W.owns ++ putL W.tick legs ys (k + 1) = (W.owns ++ putL W.tick legs ys k) ++ [⟨⟨W.tick, IK.of .u8 k⟩, newOwn legs[k] ys[k]⟩] := by rw [putL, hL, hY, List.append_assoc]
          replace H : Holds c g' w ((({ W with ds := s48, os := s82, docs := W.docs ++ [rDoc W.tick s sv], owns := W.owns ++ putL W.tick legs ys (k + 1) } : Rb).L bw ++ [pt b3 (.cells s.v.cells 59), pt b4 (.cells DocP.zero.v.cells 62), pt b6 (.cells (rDoc W.tick s sv).v.cells 62)]) ++ F) := by
            rw [hP]
            exact H.sel [0, 1, 2, 3, 4, 5, 6] 8 rfl rfl
          have hs82 : s82.len = so.len + 1 := hs82
          refine wpF_region rfl ?_   -- R9
          refine wpO_val rfl (x_moveI rfl) ?_
          refine wpO_val rfl (x_arith rfl rfl (fun _ => rfl) rfl) ?_
          refine wpO_val rfl (x_assignI rfl) ?_
          refine wpO_nil ?_
          exact ⟨ys.length - (k + 1), by omega, k + 1, s82, _, ⟨by omega, rfl, by omega⟩, H, updL_eta ⟨rfl, rfl, rfl, rfl, vi64 (w64 (by omega) (by omega)), trivial⟩⟩
        ·
          have hkk : k = ys.length := by have : ¬ (k : Int) < sv.len := (by simpa [rDoc] using hc55); omega
          subst hkk
          refine wpF_exit ?_   -- exit 0
          refine wpF_seq ?_
          refine wpF_region rfl ?_   -- R11
          refine wpO_val rfl (x_load1V (rDoc W.tick s sv).v Tryz.isAgg62 Tryz.sizeOf62 rfl (H.getF 6 rfl) (by kernel_rfl) (by kernel_rfl)) ?_
          refine wpO_eff0 rfl (e_storeAll (v := (rDoc W.tick s sv).v) H 5 rfl Tryz.sizeOf62 rfl rfl rfl rfl (by kernel_rfl) fun w H => ?_)
          refine wpO_val rfl (x_assignI rfl) ?_
          refine wpO_nil ?_
          refine wpF_ret ?_
          repeat (with_reducible first | refine thenF_r ?_ | refine inBlockF_r ?_)
          refine end_ct rfl rfl rfl Tryz.isAgg62 Tryz.sizeOf62 (H.getF 5 rfl) rfl ?_   -- cell:4 62 tmp:5
          have h00 : W.issueE s legs taxes = 0 := by rw [hE, ← he, h0]
          exact ⟨g', hle, .inr ⟨h00, sv, ys, s48, so, rfl, hsv, hrv, hylen, H.sel [0, 1, 2, 3] 7 rfl rfl⟩⟩
-- >> rIssue_c
/-- Where a coupon of another one is put. -/
def rplace (others : List Other) (k : Key) : Nat := (others.takeWhile fun x => aheadK x.k k).length
def Rb.setHeldE (W : Rb) (k : Key) : Int :=
  if ((k.t.car.n == W.self.n) || !rTicket k.t W.n.n || decide (k.i.n ≥ 4)) = true then 1
  else if fidx (fun x => decide (x.k = k)) W.others ≥ 0 then 0
  else if 64 ≤ W.hs.len then 3 else 0
def rput (others : List Other) (k : Key) (h : Held) : List Other :=
  if fidx (fun x => decide (x.k = k)) others ≥ 0 then others.set (fidx (fun x => decide (x.k = k)) others).toNat ⟨k, h⟩
  else others.take (rplace others k) ++ ⟨k, h⟩ :: others.drop (rplace others k)
theorem fidx_spec {α : Type} {p : α → Bool} {l : List α} (h : fidx p l ≥ 0) : ∃ i, ∃ hi : i < l.length, fidx p l = (i : Int) ∧ p l[i] = true := by
  unfold fidx at h ⊢
  split at h
  · rename_i i hf
    obtain ⟨hi, hp, _⟩ := List.findIdx?_eq_some_iff_getElem.1 hf
    exact ⟨i, hi, rfl, hp⟩
  · omega
theorem rplace_at {others : List Other} {k : Key} {i : Nat} (hi : i ≤ others.length) (h1 : ∀ x ∈ others.take i, aheadK x.k k = true) (h2 : ∀ h : i < others.length, aheadK others[i].k k = false) : rplace others k = i := by
  unfold rplace
  induction others generalizing i with
  | nil => simp at hi; simp [hi]
  | cons x r ih =>
    cases i with
    | zero =>
      have := h2 (by simp)
      simp at this
      simp [this]
    | succ i =>
      have hx := h1 x (by simp)
      rw [List.takeWhile_cons, hx]
      simp only [List.length_cons]
      rw [if_pos trivial, List.length_cons, ih (by simpa using hi) (fun y hy => h1 y (by simp [hy])) fun h => h2 (Nat.succ_lt_succ h)]
theorem rplace_le (others : List Other) (k : Key) : rplace others k ≤ others.length := (List.takeWhile_sublist _).length_le
-- << rSetHeld_c
theorem rSetHeld_c {c : Cx} {g : Heap} {w : World} {F : List Asn} {bw : Nat} (W : Rb) (k : Key) (h : Held) (hb : W.others.length ≤ 1000000) (H : Holds c g w (W.L bw ++ F)) :
    Calls Tryz.prog 29 #[.pointer (some ⟨bw, 0, none⟩), k.v, h.v] w (Ret fun v w' => v = .int .i64 (W.setHeldE k) ∧
      ((W.setHeldE k ≠ 0 ∧ Holds c g w' (W.L bw ++ F)) ∨ (W.setHeldE k = 0 ∧ ∃ hs', Holds c g w' (({ W with hs := hs', others := rput W.others k h } : Rb).L bw ++ F)))) := by
  have hfit := Holds.rowFit (L := W.L bw) H 3 rfl (fun _ => rfl) rfl
  have hlen : W.hs.len = W.others.length := hfit.1
  -- (*tarmac/tarmacref15.Book).SetHeld  (function 29; params ['38', '27', '64']; results tmp:6; ntmps 95)
  refine calls_of_wpF Tryz.func29 rfl Tryz.ntmps29 rfl ?_
  refine wpF_seq ?_
  refine wpF_region rfl ?_   -- R0
  refine wpO_eff rfl (e_boxA H rfl fun b4 w H => ?_)
  refine wpO_eff rfl (e_boxA H rfl fun b5 w H => ?_)
  refine wpO_val rfl (x_assignI rfl) ?_
  refine wpO_nil ?_
  refine wpF_seq ?_
  refine wpF_seq ?_
  refine wpF_cut (fun f w => ∃ f0, Holds c g w ((W.L bw ++ [pt b4 (.cells k.v.cells 27), pt b5 (.cells h.v.cells 64)]) ++ F) ∧ f = updL f0 [(0, .pointer (some ⟨bw, 0, none⟩)), (4, .pointer (some ⟨b4, 0, none⟩)), (5, .pointer (some ⟨b5, 0, none⟩)), (31, .bool ((k.t.car.n == W.self.n) || !rTicket k.t W.n.n || decide (k.i.n ≥ 4)))]) ?_ ?_
  ·
    refine wpF_drawC [0, 1, 2, 3, 4, 5, 6, 7, 8, 9, 10, 11, 12, 13, 14, 15, 16, 17, 18, 19, 20, 21, 22] [15] [0, 0, 0, 0, 0, 0, 0, 0, 0, 0, 0, 0, 0, 0, 0, 1, 1, 1, 1, 1, 1, 1, 1] (RH 1 c (W.L bw ++ [pt b4 (.cells (k.v).cells 27)])) mixed (by kernel_rfl) rfl fun w hw => ?_   -- R1 DRAWS [(15, 'call')]
    have H := H.to hw
    have H0 : Has c w (W.L bw ++ [pt b4 (.cells (k.v).cells 27)]) := Holds.has (F := F) (Holds.sel H [0, 1, 2, 3, 4] 6 rfl rfl)
    refine wpDC_e rfl rfl rfl rfl (x_fieldAddrN Tryz.underlying27 rfl Tryz.sizeOf25 rfl rfl) ?_
    refine wpDC_e rfl rfl rfl rfl (x_fieldAddrN Tryz.underlying25 rfl Tryz.sizeOf5 rfl rfl) ?_
    refine wpDC_e rfl rfl rfl rfl (x_load0bI Tryz.isAgg5 rfl (H.getF 4 rfl) rfl) ?_
    refine wpDC_e rfl rfl rfl rfl (x_moveP rfl) ?_
    refine wpDC_e rfl rfl rfl rfl (x_nilCheck rfl) ?_
    refine wpDC_e rfl rfl rfl rfl (x_fieldAddrN Tryz.underlying90 rfl Tryz.sizeOf5 rfl rfl) ?_
    refine wpDC_e rfl rfl rfl rfl (x_load0bI Tryz.isAgg5 rfl (H.getF 0 rfl) rfl) ?_
    refine wpDC_e rfl rfl rfl rfl (x_cmp rfl rfl rfl rfl) ?_
    refine wpDC_e rfl rfl rfl rfl (x_moveB rfl) ?_
    refine wpDC_split 17 rfl (fun hb17 => ?_) (fun hb17 => ?_)
    ·
      refine wpDC_not rfl rfl rfl ?_
      refine wpDC_not rfl rfl rfl ?_
      refine wpDC_not rfl rfl rfl ?_
      refine wpDC_not rfl rfl rfl ?_
      refine wpDC_not rfl rfl rfl ?_
      refine wpDC_not rfl rfl rfl ?_
      refine wpDC_notE rfl rfl rfl (fun _ => Holds.has (L := (W.L bw ++ [pt b4 (.cells (k.v).cells 27)])) (F := F) (Holds.sel H [0, 1, 2, 3, 4] 6 rfl rfl)) ?_
      refine wpDC_not rfl rfl rfl ?_
      refine wpDC_q rfl rfl rfl (fun w => (x_pickB rfl rfl)) ?_
      refine wpDC_q rfl rfl rfl (fun w => (x_moveB rfl)) ?_
      refine wpDC_not rfl rfl rfl ?_
      refine wpDC_not rfl rfl rfl ?_
      refine wpDC_not rfl rfl rfl ?_
      refine wpDC_q rfl rfl rfl (fun w => (x_pickB rfl rfl)) ?_
      refine wpDC_nil ?_
      exact ⟨_, H, updL_eta ⟨rfl, rfl, rfl, bq (by rw [hb17]; rfl), trivial⟩⟩
    ·
      refine wpDC_e rfl rfl rfl rfl (x_fieldAddrN Tryz.underlying27 rfl Tryz.sizeOf25 rfl rfl) ?_
      refine wpDC_e rfl rfl rfl rfl (x_load1V k.t.v Tryz.isAgg25 Tryz.sizeOf25 rfl (H.getF 4 rfl) (by kernel_rfl) (by kernel_rfl)) ?_
      refine wpDC_e rfl rfl rfl rfl (x_moveP rfl) ?_
      refine wpDC_e rfl rfl rfl rfl (x_nilCheck rfl) ?_
      refine wpDC_e rfl rfl rfl rfl (x_fieldAddrN Tryz.underlying90 rfl Tryz.sizeOf3 rfl rfl) ?_
      refine wpDC_e rfl rfl rfl rfl (x_load0bI Tryz.isAgg3 rfl (H.getF 0 rfl) rfl) ?_
      refine wpDC_eff rfl rfl rfl (e_callF (vs := [k.t.v, W.n.v]) Tryz.call75 rfl ((rTicket_c k.t W.n.n H).mono (Ret.mono ?_)))
      rintro v24 w ⟨rfl, H'⟩
      replace H := H.re H' rfl
      refine ⟨fun _ => Holds.has (L := (W.L bw ++ [pt b4 (.cells (k.v).cells 27)])) (F := F) (Holds.sel H [0, 1, 2, 3, 4] 6 rfl rfl), ?_⟩
      refine wpDC_q rfl rfl rfl (fun w => (x_not rfl)) ?_
      refine wpDC_q rfl rfl rfl (fun w => (x_pickB rfl rfl)) ?_
      refine wpDC_q rfl rfl rfl (fun w => (x_moveB rfl)) ?_
      refine wpDC_split 27 rfl (fun hb27 => ?_) (fun hb27 => ?_)
      ·
        refine wpDC_not rfl rfl rfl ?_
        refine wpDC_not rfl rfl rfl ?_
        refine wpDC_not rfl rfl rfl ?_
        refine wpDC_q rfl rfl rfl (fun w => (x_pickB rfl rfl)) ?_
        refine wpDC_nil ?_
        exact ⟨_, H, updL_eta ⟨rfl, rfl, rfl, bq (by rw [hb17, hb27]; rfl), trivial⟩⟩
      ·
        refine wpDC_q rfl rfl rfl (fun w => (x_fieldAddrN Tryz.underlying27 rfl Tryz.sizeOf5 rfl rfl)) ?_
        refine wpDC_h rfl rfl rfl rfl rfl H0 (fun w HR => (x_load0bI Tryz.isAgg5 rfl (HR.get 4 rfl) rfl)) ?_
        refine wpDC_q rfl rfl rfl (fun w => (x_cmp rfl rfl rfl rfl)) ?_
        refine wpDC_q rfl rfl rfl (fun w => (x_pickB rfl rfl)) ?_
        refine wpDC_nil ?_
        exact ⟨_, H, updL_eta ⟨rfl, rfl, rfl, bq (by rw [hb17, hb27]; rfl), trivial⟩⟩
  · rintro f w ⟨f0, H, rfl⟩
    refine wpF_cond _ rfl (fun hc31 => ?_) (fun hc31 => ?_)
    ·
      refine wpF_seq ?_
      refine wpF_region rfl ?_   -- R2
      refine wpO_val rfl (x_assignI rfl) ?_
      refine wpO_nil ?_
      refine wpF_ret ?_
      repeat (with_reducible first | refine thenF_r ?_ | refine inBlockF_r ?_)
      refine end_t rfl rfl ?_   -- tmp:6
      have hE : W.setHeldE k = 1 := by rw [Rb.setHeldE, if_pos hc31]
      exact ⟨by rw [hE]; rfl, .inl ⟨by rw [hE]; decide, H.sel [0, 1, 2, 3] 6 rfl rfl⟩⟩
    ·
      have hn1 : ¬ ((k.t.car.n == W.self.n) || !rTicket k.t W.n.n || decide (k.i.n ≥ 4)) = true := by rw [hc31]; decide
      refine wpF_skip ?_
      refine wpF_seq ?_
      refine wpF_region rfl ?_   -- R3
      refine wpO_val rfl (x_moveP rfl) ?_
      refine wpO_val rfl (x_load1V k.v Tryz.isAgg27 Tryz.sizeOf27 rfl (H.getF 4 rfl) (by kernel_rfl) (by kernel_rfl)) ?_
      refine wpO_eff rfl (e_callF (vs := [.pointer (some ⟨bw, 0, none⟩), k.v]) Tryz.call76 rfl ((rHeld_c W k hb H).mono (Ret.mono ?_)))
      rintro v34 w ⟨rfl, H'⟩
      replace H := H.re H' rfl
      refine wpO_val rfl (x_assignI rfl) ?_
      refine wpO_nil ?_
      refine wpF_seq ?_
      refine wpF_seq ?_
      refine wpF_region rfl ?_   -- R4
      refine wpO_val rfl (x_moveI rfl) ?_
      refine wpO_val rfl (x_cmp rfl rfl rfl rfl) ?_
      refine wpO_nil ?_
      refine wpF_cond _ rfl (fun hc36 => ?_) (fun hc36 => ?_)
      ·
        have hf0 : fidx (fun x => decide (x.k = k)) W.others ≥ 0 := by simpa using hc36
        have hE : W.setHeldE k = 0 := by rw [Rb.setHeldE, if_neg hn1, if_pos hf0]
        obtain ⟨i, hi, hfi, hki⟩ := fidx_spec hf0
        have hkq : W.others[i].k = k := of_decide_eq_true hki
        have hrp : rput W.others k h = W.others.set i ⟨k, h⟩ := by rw [rput, if_pos hf0, hfi]; rfl
        obtain ⟨bo, cpo, hos, _⟩ := Holds.rowSome (L := W.L bw ++ _) H 3 rfl (fun _ => rfl) rfl (by intro h'; rw [h'] at hi; simp at hi)
        obtain ⟨self, n0, ds, os, hs, docs, owns, others⟩ := W
        simp only at hos hi hkq hrp hfi hlen hb
        subst hos
        rw [hfi]
        refine wpF_seq ?_
        refine wpF_drawC [0, 1, 2, 3, 4, 5, 6, 7, 8] [8] [0, 0, 0, 0, 0, 0, 0, 0, 1] (fun _ _ => True) mixed (by kernel_rfl) rfl fun w hw => ?_   -- R5 DRAWS [(8, 'store')]
        have H := H.to hw
        refine wpDC_e rfl rfl rfl rfl (x_moveP rfl) ?_
        refine wpDC_e rfl rfl rfl rfl (x_nilCheck rfl) ?_
        refine wpDC_e rfl rfl rfl rfl (x_fieldAddrN Tryz.underlying90 rfl Tryz.sizeOf88 rfl rfl) ?_
        refine wpDC_e rfl rfl rfl rfl (x_load0bL Tryz.isAgg88 rfl (H.getF 0 rfl) rfl) ?_
        refine wpDC_e rfl rfl rfl rfl (x_moveI rfl) ?_
        refine wpDC_e rfl rfl rfl rfl (x_load1V h.v Tryz.isAgg64 Tryz.sizeOf64 rfl (H.getF 5 rfl) (by kernel_rfl) (by kernel_rfl)) ?_
        refine wpDC_e rfl rfl rfl rfl (x_indexSl Tryz.underlying88 Tryz.sizeOf147 rfl rfl (by omega) (by simpa using hi)) ?_
        refine wpDC_e rfl rfl rfl rfl (x_fieldAddrN (o' := 0 + i * 13 + 3) Tryz.underlying147 rfl Tryz.sizeOf64 rfl rfl) ?_
        refine wpDC_eff0 rfl rfl rfl (e_storeRowF (k := i) (o := 3) (v := h.v) H 3 rfl (fun _ => rfl) (⟨others[i].k, h⟩ : Other) Tryz.sizeOf64 rfl rfl (List.getElem?_eq_getElem hi) rfl rfl (by kernel_rfl) (by kernel_rfl) fun w H => ⟨trivial, ?_⟩)
        refine wpDC_nil ?_
        refine wpF_seq ?_
        refine wpF_region rfl ?_   -- R6
        refine wpO_val rfl (x_assignI rfl) ?_
        refine wpO_nil ?_
        refine wpF_ret ?_
        repeat (with_reducible first | refine thenF_r ?_ | refine inBlockF_r ?_)
        refine end_t rfl rfl ?_   -- tmp:6
        refine ⟨by rw [hE]; rfl, .inr ⟨hE, ⟨some ⟨bo, 0, none⟩, others.length, cpo⟩, ?_⟩⟩
        rw [hrp, ← hkq]
        exact H.sel [0, 1, 2, 3] 6 rfl rfl
      ·
        have hf0 : ¬ fidx (fun x => decide (x.k = k)) W.others ≥ 0 := by simpa using hc36
        refine wpF_skip ?_
        refine wpF_seq ?_
        refine wpF_seq ?_
        refine wpF_region rfl ?_   -- R7
        refine wpO_val rfl (x_moveP rfl) ?_
        refine wpO_val rfl (x_nilCheck rfl) ?_
        refine wpO_val rfl (x_fieldAddrN Tryz.underlying90 rfl Tryz.sizeOf88 rfl rfl) ?_
        refine wpO_val rfl (x_load0bL Tryz.isAgg88 rfl (H.getF 0 rfl) rfl) ?_
        refine wpO_val rfl (x_lenSl Tryz.underlying88 rfl) ?_
        refine wpO_val rfl (x_cmp rfl rfl rfl rfl) ?_
        refine wpO_nil ?_
        refine wpF_cond _ rfl (fun hc50 => ?_) (fun hc50 => ?_)
        ·
          refine wpF_seq ?_
          refine wpF_region rfl ?_   -- R8
          refine wpO_val rfl (x_assignI rfl) ?_
          refine wpO_nil ?_
          refine wpF_ret ?_
          repeat (with_reducible first | refine thenF_r ?_ | refine inBlockF_r ?_)
          refine end_t rfl rfl ?_   -- tmp:6
          have h64 : 64 ≤ W.hs.len := by simp at hc50; omega
          have hE : W.setHeldE k = 3 := by rw [Rb.setHeldE, if_neg hn1, if_neg hf0, if_pos h64]
          exact ⟨by rw [hE]; rfl, .inl ⟨by rw [hE]; decide, H.sel [0, 1, 2, 3] 6 rfl rfl⟩⟩
        ·
          have h64 : ¬ 64 ≤ W.hs.len := by simp at hc50; omega
          have hE : W.setHeldE k = 0 := by rw [Rb.setHeldE, if_neg hn1, if_neg hf0, if_neg h64]
          refine wpF_skip ?_
          refine wpF_seq ?_
          refine wpF_region rfl ?_   -- R9
          refine wpO_val rfl (x_assignI rfl) ?_
          refine wpO_nil ?_
          refine wpF_seq ?_
          refine wpF_block ?_   -- block 0
          refine wpF_loop (fun q f w => ∃ (i : Nat) (f0 : Fr), (i ≤ W.others.length ∧ q = W.others.length - i ∧ ∀ x ∈ W.others.take i, aheadK x.k k = true) ∧ Holds c g w ((W.L bw ++ [pt b4 (.cells k.v.cells 27), pt b5 (.cells h.v.cells 64)]) ++ F) ∧ f = updL f0 [(0, .pointer (some ⟨bw, 0, none⟩)), (4, .pointer (some ⟨b4, 0, none⟩)), (5, .pointer (some ⟨b5, 0, none⟩)), (7, .int .i64 (i : Nat))]) W.others.length ?_ ?_
          · exact ⟨0, _, ⟨by omega, by omega, by simp⟩, H, updL_eta ⟨rfl, rfl, rfl, rfl, trivial⟩⟩
          · rintro q f w ⟨i, f0, ⟨hi, hq, hall⟩, H, rfl⟩
            refine wpF_seq ?_
            refine wpF_seq ?_
            refine wpF_cut (fun f w => ∃ (f0 : Fr) (z : Bool), (z = true → ∃ h : i < W.others.length, aheadK W.others[i].k k = true) ∧ (z = false → ∀ h : i < W.others.length, aheadK W.others[i].k k = false) ∧ Holds c g w ((W.L bw ++ [pt b4 (.cells k.v.cells 27), pt b5 (.cells h.v.cells 64)]) ++ F) ∧ f = updL f0 [(0, .pointer (some ⟨bw, 0, none⟩)), (4, .pointer (some ⟨b4, 0, none⟩)), (5, .pointer (some ⟨b5, 0, none⟩)), (7, .int .i64 (i : Nat)), (69, .bool z)]) ?_ ?_
            ·
              refine wpF_drawC [0, 1, 2, 3, 4, 5, 6, 7, 8, 9, 10, 11, 12, 13, 14, 15, 16, 17, 18] [17] [0, 0, 0, 0, 0, 0, 0, 0, 0, 0, 0, 0, 0, 0, 0, 0, 0, 1, 1] (fun _ _ => True) mixed (by kernel_rfl) rfl fun w hw => ?_   -- R10 DRAWS [(17, 'call')]
              have H := H.to hw
              refine wpDC_e rfl rfl rfl rfl (x_moveI rfl) ?_
              refine wpDC_e rfl rfl rfl rfl (x_moveP rfl) ?_
              refine wpDC_e rfl rfl rfl rfl (x_nilCheck rfl) ?_
              refine wpDC_e rfl rfl rfl rfl (x_fieldAddrN Tryz.underlying90 rfl Tryz.sizeOf88 rfl rfl) ?_
              refine wpDC_e rfl rfl rfl rfl (x_load0bL Tryz.isAgg88 rfl (H.getF 0 rfl) rfl) ?_
              refine wpDC_e rfl rfl rfl rfl (x_lenSl Tryz.underlying88 rfl) ?_
              refine wpDC_e rfl rfl rfl rfl (x_cmp rfl rfl rfl rfl) ?_
              refine wpDC_e rfl rfl rfl rfl (x_moveB rfl) ?_
              refine wpDC_split 58 rfl (fun hb58 => ?_) (fun hb58 => ?_)
              ·
                have hi' : i < W.others.length := by rw [← hlen]; simpa using hb58
                obtain ⟨bo, cpo, hos, hcp⟩ := Holds.rowSome (L := W.L bw ++ _) H 3 rfl (fun _ => rfl) rfl (by intro h'; rw [h'] at hi'; simp at hi')
                obtain ⟨self, n0, ds, os, hs, docs, owns, others⟩ := W
                simp only at hos hi' hlen
                subst hos
                refine wpDC_e rfl rfl rfl rfl (x_moveP rfl) ?_
                refine wpDC_e rfl rfl rfl rfl (x_nilCheck rfl) ?_
                refine wpDC_e rfl rfl rfl rfl (x_fieldAddrN Tryz.underlying90 rfl Tryz.sizeOf88 rfl rfl) ?_
                refine wpDC_e rfl rfl rfl rfl (x_load0bL Tryz.isAgg88 rfl (H.getF 0 rfl) rfl) ?_
                refine wpDC_e rfl rfl rfl rfl (x_moveI rfl) ?_
                refine wpDC_e rfl rfl rfl rfl (x_indexSl Tryz.underlying88 Tryz.sizeOf147 rfl rfl (by omega) (by simpa using hi')) ?_
                refine wpDC_e rfl rfl rfl rfl (x_fieldAddrN (o' := 0 + i * 13 + 0) Tryz.underlying147 rfl Tryz.sizeOf27 rfl rfl) ?_
                refine wpDC_e rfl rfl rfl rfl (x_loadRowG (k := i) (o := 0) others[i].k.v H 3 rfl (fun _ => rfl) Tryz.isAgg27 Tryz.sizeOf27 rfl (List.getElem?_eq_getElem hi') rfl (by kernel_rfl)) ?_
                refine wpDC_e rfl rfl rfl rfl (x_load1V k.v Tryz.isAgg27 Tryz.sizeOf27 rfl (H.getF 4 rfl) (by kernel_rfl) (by kernel_rfl)) ?_
                refine wpDC_eff rfl rfl rfl (e_callF (vs := [others[i].k.v, k.v]) Tryz.call77 rfl ((ahead_c others[i].k k H).mono (Ret.mono ?_)))
                rintro v68 w ⟨rfl, H'⟩
                replace H := H.re H' rfl
                refine ⟨trivial, ?_⟩
                refine wpDC_q rfl rfl rfl (fun w => (x_pickB rfl rfl)) ?_
                refine wpDC_nil ?_
                exact ⟨_, aheadK others[i].k k, fun h => ⟨hi', h⟩, fun h _ => h, H, updL_eta ⟨rfl, rfl, rfl, rfl, rfl, trivial⟩⟩
              ·
                refine wpDC_not rfl rfl rfl ?_
                refine wpDC_not rfl rfl rfl ?_
                refine wpDC_not rfl rfl rfl ?_
                refine wpDC_not rfl rfl rfl ?_
                refine wpDC_not rfl rfl rfl ?_
                refine wpDC_not rfl rfl rfl ?_
                refine wpDC_not rfl rfl rfl ?_
                refine wpDC_not rfl rfl rfl ?_
                refine wpDC_not rfl rfl rfl ?_
                refine wpDC_notE rfl rfl rfl (trivial) ?_
                refine wpDC_q rfl rfl rfl (fun w => (x_pickB rfl rfl)) ?_
                refine wpDC_nil ?_
                have hi' : ¬ i < W.others.length := by rw [← hlen]; simpa using hb58
                exact ⟨_, false, fun h => (by cases h), fun _ h => absurd h hi', H, updL_eta ⟨rfl, rfl, rfl, rfl, rfl, trivial⟩⟩
            · rintro f w ⟨f0, z, hz1, hz0, H, rfl⟩
              refine wpF_cond _ rfl (fun hc69 => ?_) (fun hc69 => ?_)
              ·
                refine wpF_skip ?_
                refine wpF_block ?_   -- block 1
                refine wpF_region rfl ?_   -- R11
                refine wpO_val rfl (x_moveI rfl) ?_
                refine wpO_val rfl (x_arith rfl rfl (fun _ => rfl) rfl) ?_
                refine wpO_val rfl (x_assignI rfl) ?_
                refine wpO_nil ?_
                obtain ⟨hi', ha⟩ := hz1 hc69
                refine ⟨W.others.length - (i + 1), by omega, i + 1, _, ⟨by omega, rfl, ?_⟩, H, updL_eta ⟨rfl, rfl, rfl, vi64 (w64 (by omega) (by omega)), trivial⟩⟩
                rw [List.take_succ_eq_append_getElem hi']
                intro x hx
                rcases List.mem_append.1 hx with hx | hx
                · exact hall x hx
                · simp at hx; subst hx; exact ha
              ·
                have hpl : rplace W.others k = i := rplace_at hi hall (hz0 hc69)
                have hrp : rput W.others k h = (W.others.take i ++ [⟨k, h⟩]) ++ W.others.drop i := by rw [rput, if_neg hf0, hpl]; simp
                refine wpF_exit ?_   -- exit 0
                refine wpF_seq ?_
                refine wpF_cut (fun f w => ∃ (f0 : Fr) (s8 : Sl), s8.len = W.others.length - i ∧ Holds c g w ((W.L bw ++ ([pt b4 (.cells k.v.cells 27), pt b5 (.cells h.v.cells 64)] ++ [rowE 147 Other.v 13 s8 (W.others.drop i)])) ++ F) ∧ f = updL f0 [(0, .pointer (some ⟨bw, 0, none⟩)), (4, .pointer (some ⟨b4, 0, none⟩)), (5, .pointer (some ⟨b5, 0, none⟩)), (7, .int .i64 (i : Nat)), (8, s8.v)]) ?_ ?_
                ·
                  have H := H.nilRowAt (E := 147) (m := 13)
                  refine wpF_region rfl ?_   -- R12
                  refine wpO_val rfl (x_moveP rfl) ?_
                  refine wpO_val rfl (x_nilCheck rfl) ?_
                  refine wpO_val rfl (x_fieldAddrN Tryz.underlying90 rfl Tryz.sizeOf88 rfl rfl) ?_
                  refine wpO_val rfl (x_load0bL Tryz.isAgg88 rfl (H.getF 0 rfl) rfl) ?_
                  refine wpO_val rfl (x_moveI rfl) ?_
                  refine wpO_val rfl (x_sliceFromS Tryz.underlying88 Tryz.sizeOf147 hfit hi rfl rfl) ?_
                  refine wpO_eff rfl (e_appendFromS (enc := Other.v) (s2 := W.hs) (q := i) (ys := W.others) H 6 3 rfl rfl Tryz.underlying88 isOther elOther rfl rfl hi (by omega) (by omega) fun s78 w hs78 H => ?_)
                  refine wpO_val rfl (x_assignL rfl) ?_
                  refine wpO_nil ?_
                  exact ⟨_, s78, hs78, H, updL_eta ⟨rfl, rfl, rfl, rfl, rfl, trivial⟩⟩
                · rintro f w ⟨f0, s8, hs8, H, rfl⟩
                  refine wpF_seq ?_
                  have H := Holds.rowTakeS (k := i) (xs := W.others) H 3 rfl (fun _ => rfl) rfl hi
                  refine wpF_cut (fun f w => ∃ (f0 : Fr) (hs' : Sl), Holds c g w (({ W with hs := hs', others := rput W.others k h } : Rb).L bw ++ F) ∧ f = updL f0 []) ?_ ?_
                  ·
                    refine wpF_drawC [0, 1, 2, 3, 4, 5, 6, 7, 8, 9, 12, 10, 11, 13, 14, 15, 16] [10, 11, 13, 16] [3, 1, 1, 1, 1, 1, 1, 0, 0, 0, 4, 4, 2, 4, 3, 3, 4] (RH 1 c [pt bw (.cells W.cs 90)]) mixed (by kernel_rfl) rfl fun w hw => ?_
                    have H := H.to hw
                    have H0 : Has c w [pt bw (.cells W.cs 90)] := Holds.has (F := F) (Holds.sel H [0] 7 rfl rfl)
                    refine wpDC_q rfl rfl rfl (fun w => (x_moveP rfl)) ?_
                    refine wpDC_q rfl rfl rfl (fun w => (x_moveP rfl)) ?_
                    refine wpDC_q rfl rfl rfl (fun w => (x_nilCheck rfl)) ?_
                    refine wpDC_q rfl rfl rfl (fun w => (x_fieldAddrN Tryz.underlying90 rfl Tryz.sizeOf88 rfl rfl)) ?_
                    refine wpDC_h rfl rfl rfl rfl rfl H0 (fun w HR => (x_load0bL Tryz.isAgg88 rfl (HR.get 0 rfl) rfl)) ?_
                    refine wpDC_q rfl rfl rfl (fun w => (x_moveI rfl)) ?_
                    refine wpDC_q rfl rfl rfl (fun w => (x_sliceToS Tryz.underlying88 Tryz.sizeOf147 hfit hi rfl rfl)) ?_
                    refine wpDC_e rfl rfl rfl rfl (x_load1V k.v Tryz.isAgg27 Tryz.sizeOf27 rfl (H.getF 4 rfl) (by kernel_rfl) (by kernel_rfl)) ?_
                    refine wpDC_e rfl rfl rfl rfl (x_load1V h.v Tryz.isAgg64 Tryz.sizeOf64 rfl (H.getF 5 rfl) (by kernel_rfl) (by kernel_rfl)) ?_
                    refine wpDC_e rfl rfl rfl rfl (x_buildSt stOther [k.v, h.v] rfl (cs := ((⟨k, h⟩ : Other).v).cells) (by kernel_rfl)) ?_
                    refine wpDC_q rfl rfl rfl (fun w => (x_moveL rfl)) ?_
                    refine wpDC_eff rfl rfl rfl (e_buildSlice H Tryz.underlying88 Tryz.sizeOf147 Tryz.zeroValue147 rfl rfl (vs := [(⟨k, h⟩ : Other).v]) (by kernel_rfl) (by kernel_rfl) (cs := ((⟨k, h⟩ : Other).v).cells.toList) (by kernel_rfl) fun b89 w H => ⟨fun _ => Holds.has (L := [pt bw (.cells W.cs 90)]) (F := F) (Holds.sel H [0] 8 rfl rfl), ?_⟩)
                    refine wpDC_eff rfl rfl rfl (e_append1 (enc := Other.v) (s := ⟨W.hs.a, i, W.hs.cap⟩) (xs := W.others.take i) (⟨k, h⟩ : Other) H 3 7 rfl rfl Tryz.underlying88 isOther rfl rfl rfl rfl (by show (i + 1) * 56 ≤ _; omega) (by show i + 1 ≤ _; omega) fun s90 w hs90 hn90 H => ⟨fun h => absurd h (by decide), ?_⟩)
                    have hs90 : s90.len = i + 1 := hs90
                    refine wpDC_eff rfl rfl rfl (e_appendRow (enc := Other.v) (s := s90) (s2 := s8) H 3 6 rfl rfl Tryz.underlying88 isOther elOther rfl rfl (by omega) (by omega) fun s92 w hs92 H => ⟨fun h => absurd h (by decide), ?_⟩)
                    refine wpDC_q rfl rfl rfl (fun w => (x_nilCheck rfl)) ?_
                    refine wpDC_q rfl rfl rfl (fun w => (x_fieldAddrN Tryz.underlying90 rfl Tryz.sizeOf88 rfl rfl)) ?_
                    refine wpDC_eff0 rfl rfl rfl (e_store H 0 rfl Tryz.sizeOf88 rfl rfl rfl rfl rfl fun w H => ⟨fun h => absurd h (by decide), ?_⟩)
                    refine wpDC_nil ?_
                    refine ⟨_, s92, ?_, updL_eta trivial⟩
                    rw [hrp]
                    exact H.sel [0, 1, 2, 3] 8 rfl rfl
                  · rintro f w ⟨f0, hs', H, rfl⟩
                    refine wpF_seq ?_
                    refine wpF_region rfl ?_   -- R14
                    refine wpO_val rfl (x_assignI rfl) ?_
                    refine wpO_nil ?_
                    refine wpF_ret ?_
                    repeat (with_reducible first | refine thenF_r ?_ | refine inBlockF_r ?_)
                    refine end_t rfl rfl ?_   -- tmp:6
                    exact ⟨by rw [hE]; rfl, .inr ⟨hE, hs', H⟩⟩
-- >> rSetHeld_c
end Go.Proofs.YtfoginganpgmcaaGreat
