/- Layer 16: what is built. -/
import Derived.Test.YtfoginganpgmcaaGreatLaw16
set_option linter.unusedSimpArgs false
set_option linter.unusedVariables false
namespace Go.Proofs.YtfoginganpgmcaaGreat
open Go Go.Tw
set_option maxRecDepth 100000

/-- A book that is being built: its documents can be read. -/
structure BkG (g : Heap) (sf : IK .u8) (n : IK .i64) (B : Bk) : Prop where
  docs : ∃ φ, DocsR g B.docs φ
  eS : B.self = sf
  eN : B.n = n
/-- The document's book, so many acts old. -/
structure RbG (k : Nat) (W : Rb) : Prop where
  owns : W.owns.length ≤ 20 * k
  others : W.others.length ≤ k
theorem BkG.mono {g g' : Heap} {self : IK .u8} {n : IK .i64} {B : Bk} (h : BkG g self n B) (hle : Le g g') : BkG g' self n B := ⟨h.docs.elim fun φ h => ⟨φ, h.mono hle⟩, h.eS, h.eN⟩
theorem RbG.up {k : Nat} {W : Rb} (h : RbG k W) : RbG (k + 1) W := ⟨by have := h.owns; omega, by have := h.others; omega⟩
theorem BkG.setOwn {g : Heap} {self : IK .u8} {n : IK .i64} {B : Bk} (h : BkG g self n B) (k : Key) (o : Own) : BkG g self n (B.setOwn k o) := by
  unfold Bk.setOwn; split
  · exact ⟨h.docs, h.eS, h.eN⟩
  · exact h
theorem BkG.setHeld {g : Heap} {self : IK .u8} {n : IK .i64} {B : Bk} (h : BkG g self n B) (k : Key) (x : Held) : BkG g self n (B.setHeld k x) := by
  unfold Bk.setHeld; split
  · exact ⟨h.docs, h.eS, h.eN⟩
  · exact h
theorem BkG.new (g : Heap) (self : IK .u8) (n : IK .i64) (md mo mh : Nat) : BkG g self n (Bk.new self n md mo mh) := ⟨⟨fun _ => none, fun _ => trivial⟩, rfl, rfl⟩
theorem docsPut {g : Heap} {docs : List (Ticket × DocP)} {φ : Ticket → Option DocC} {d : DocP} {C : DocC} (h : DocsR g docs φ) (hd : DocIs g d C) (t : Ticket) : DocsR g (kput docs t d) (fun x => if t = x then some C else φ x) := by
  intro x
  rw [kget_kput]
  by_cases e : t = x
  · simp only [if_pos e]; exact hd
  · simp only [if_neg e]; exact h x
theorem set_same {α : Type} : ∀ {L : List α} {i : Nat} {x : α}, L[i]? = some x → L.set i x = L
  | [], i, x, h => by simp at h
  | y :: r, 0, x, h => by simp at h; subst h; rfl
  | y :: r, i + 1, x, h => by simp at h; simp [set_same h]
theorem fidx_at {α : Type} {p : α → Bool} {l : List α} (h : fidx p l ≥ 0) : ∃ i, ∃ hi : i < l.length, fidx p l = (i : Int) := by
  obtain ⟨i, hi, h1, _⟩ := fidx_spec h
  exact ⟨i, hi, h1⟩
theorem rput_len (l : List Other) (k : Key) (h : Held) : (rput l k h).length ≤ l.length + 1 := by
  unfold rput
  split
  · simp
  · simp only [List.length_append, List.length_take, List.length_cons, List.length_drop]; omega

section
variable {c : Cx} {g : Heap} {w : World} {L F : List Asn} {self : IK .u8} {n : IK .i64}
theorem newNoB (h0 : newOk self n = false) (H : Holds c g w (L ++ F)) :
    Calls Tryz.prog 15 #[self.v, n.v] w (Ret fun v w' => v = .tuple #[.pointer none, .int .i64 1] ∧ Holds c g w' (L ++ F)) :=
  (new_i self n H).mono (Ret.mono fun _ _ h => h.elim (fun h => ⟨h.2.1, h.2.2⟩) fun h => by rw [h0] at h; cases h.1)
theorem rnewNoB (h0 : newOk self n = false) (H : Holds c g w (L ++ F)) :
    Calls Tryz.prog 22 #[self.v, n.v] w (Ret fun v w' => v = .pointer none ∧ Holds c g w' (L ++ F)) :=
  (rnew_i self n H).mono (Ret.mono fun _ _ h => h.elim (fun h => ⟨h.2.1, h.2.2⟩) fun h => by rw [h0] at h; cases h.1)
theorem rnewYesB (h0 : newOk self n = true) (H : Holds c g w (L ++ F)) :
    Calls Tryz.prog 22 #[self.v, n.v] w (Ret fun v w' => ∃ bw, v = .pointer (some ⟨bw, 0, none⟩) ∧ Holds c g w' ((L ++ [rbookA bw ⟨self, n, Sl.nil, Sl.nil, Sl.nil, [], [], []⟩]) ++ F)) :=
  (rnew_i self n H).mono (Ret.mono fun _ _ h => h.elim (fun h => by rw [h0] at h; cases h.1) fun h => h.2)
theorem issueB {b : Nat} {B : Bk} {s : SaleP} {legs : List Leg} {taxes : List Tax} (hB : BkG g self n B) (hs : SaleR g s legs taxes) (hl : s.legs.len ≤ 20) (ht : s.taxes.len ≤ 20) (hn : s.name.length ≤ 200) (H : Holds c g w (L ++ F)) (i : Nat) (hi : L[i]? = some (bookA b B)) :
    Calls Tryz.prog 16 #[.pointer (some ⟨b, 0, none⟩), s.v] w (Ret fun v w' => ∃ g' B', Le g g' ∧ BkG g' self n B' ∧ Holds c g' w' (L.set i (bookA b B') ++ F)) := by
  have hll := hs.l.len
  have htt := hs.t.len
  refine (issue_i s legs taxes hs (by omega) (by omega) (by omega) H i hi).mono (Ret.mono ?_)
  rintro v w ⟨g', hle, ⟨_, _, H⟩ | ⟨_, d, d2, ys, hv, hnd, hb, _, H⟩⟩
  · refine ⟨g', B, hle, hB.mono hle, ?_⟩
    rwa [set_same hi]
  · obtain ⟨φ, hφ⟩ := (hB.mono hle).docs
    refine ⟨g', B.issued d legs ys, hle, ⟨⟨_, docsPut hφ (C := ⟨d.bare, legs, taxes, ys.map (·.n)⟩) ⟨hnd.r, rfl, (by show legs.length ≤ 1000; omega), (by show taxes.length ≤ 1000; omega), ?_⟩ d.t⟩, hB.eS, hB.eN⟩, H⟩
    have := hnd.len
    show (ys.map (·.n)).length ≤ 1000
    omega
theorem rissueB {k b : Nat} {W : Rb} {s : SaleP} {legs : List Leg} {taxes : List Tax} (hW : RbG k W) (hk : k ≤ 100) (hs : SaleR g s legs taxes) (hl : s.legs.len ≤ 20) (ht : s.taxes.len ≤ 20) (hn : s.name.length ≤ 200) (H : Holds c g w (L ++ F)) (i : Nat) (hi : L[i]? = some (rbookA b W)) :
    Calls Tryz.prog 24 #[.pointer (some ⟨b, 0, none⟩), s.v] w (Ret fun v w' => ∃ g' W', Le g g' ∧ RbG (k + 1) W' ∧ Holds c g' w' (L.set i (rbookA b W') ++ F)) := by
  have hll := hs.l.len
  have htt := hs.t.len
  have ho := hW.owns
  have hh := hW.others
  refine (rissue_i s legs taxes (by omega) hs (by omega) (by omega) (by omega) H i hi).mono (Ret.mono ?_)
  rintro v w ⟨g', hle, ⟨_, _, H⟩ | ⟨_, sv, ys, sd, so, _, _, _, hy, H⟩⟩
  · exact ⟨g', W, hle, hW.up, by rwa [set_same hi]⟩
  · refine ⟨g', _, hle, ⟨?_, ?_⟩, H⟩
    · show (W.owns ++ putL W.tick legs ys ys.length).length ≤ _
      rw [List.length_append, putL_len]; omega
    · show W.others.length ≤ _
      omega
theorem rsetHeldB {k b : Nat} {W : Rb} (hW : RbG k W) (hk : k ≤ 100) (ky : Key) (h : Held) (H : Holds c g w (L ++ F)) (i : Nat) (hi : L[i]? = some (rbookA b W)) :
    Calls Tryz.prog 29 #[.pointer (some ⟨b, 0, none⟩), ky.v, h.v] w (Ret fun v w' => ∃ W', RbG (k + 1) W' ∧ Holds c g w' (L.set i (rbookA b W') ++ F)) := by
  have ho := hW.owns
  have hh := hW.others
  refine (rsetHeld_i ky h (by omega) H i hi).mono (Ret.mono ?_)
  rintro v w ⟨_, ⟨_, H⟩ | ⟨_, hs', H⟩⟩
  · exact ⟨W, hW.up, by rwa [set_same hi]⟩
  · refine ⟨_, ⟨?_, ?_⟩, H⟩
    · show W.owns.length ≤ _
      omega
    · exact Nat.le_trans (rput_len _ _ _) (by omega)
theorem elBAct : ElLaw Tryz.prog 66 BAct.v 46 := ⟨Tryz.sizeOf66, .inl ⟨Tryz.isAgg66, fun _ => ⟨_, rfl⟩⟩, fun _ => rfl, fun _ => rfl⟩
end

-- << builtYes_c
theorem builtYes_c {c : Cx} {g : Heap} {w : World} {F : List Asn} {self : IK .u8} {nn : IK .i64} {s : Sl} {xs : List BAct} (h0 : newOk self nn = true) (hs : SlR g BAct.v 46 s xs) (hmax : xs.length ≤ 100) (hoks : ∀ x ∈ xs, OkAct x) (hsales : ∀ x ∈ xs, ∃ legs taxes, SaleR g x.s legs taxes) (H : Holds c g w F) :
    Calls Tryz.prog 8 #[self.v, nn.v, s.v] w (Ret fun v w' => ∃ g' b bw B W, v = .tuple #[.pointer (some ⟨b, 0, none⟩), .pointer (some ⟨bw, 0, none⟩)] ∧ Le g g' ∧ BkG g' self nn B ∧ Holds c g' w' ([bookA b B, rbookA bw W] ++ F)) := by
  have H : Holds c g w ([] ++ F) := H
  have hlen := hs.len
  -- tarmac/tarmaclaw16.Built  (function 8; params ['5', '3', '22']; results tmp:6 tmp:7; ntmps 90)
  refine calls_of_wpF Tryz.func8 rfl Tryz.ntmps8 rfl ?_
  refine wpF_seq ?_
  refine wpF_region rfl ?_   -- R0
  refine wpO_val rfl (x_assignP rfl) ?_
  refine wpO_val rfl (x_assignP rfl) ?_
  refine wpO_nil ?_
  refine wpF_seq ?_
  refine wpF_region rfl ?_   -- R1
  refine wpO_val rfl (x_moveI rfl) ?_
  refine wpO_val rfl (x_moveI rfl) ?_
  refine wpO_eff rfl (e_callF (vs := [(self : IK .u8).v, (nn : IK .i64).v]) Tryz.call15 rfl ((newOk_i (self : IK .u8) (nn : IK .i64) h0 H).mono (Ret.mono ?_)))   -- of t15 t16
  rintro v17 w ⟨b17, md17, mo17, mh17, rfl, H⟩
  refine wpO_val rfl (x_moveT rfl) ?_
  refine wpO_val rfl (x_extractP rfl rfl) ?_
  refine wpO_val rfl (x_extractI rfl rfl) ?_
  refine wpO_val rfl (x_assignP rfl) ?_
  refine wpO_val rfl (x_assignI rfl) ?_
  refine wpO_nil ?_
  refine wpF_seq ?_
  refine wpF_region rfl ?_   -- R2
  refine wpO_val rfl (x_moveI rfl) ?_
  refine wpO_val rfl (x_moveI rfl) ?_
  refine wpO_eff rfl (e_callF (vs := [(self : IK .u8).v, (nn : IK .i64).v]) Tryz.call22 rfl ((rnewYesB h0 H).mono (Ret.mono ?_)))   -- of t20 t21
  rintro v22 w ⟨b22, rfl, H⟩
  refine wpO_val rfl (x_assignP rfl) ?_
  refine wpO_nil ?_
  refine wpF_seq ?_
  refine wpF_seq ?_
  refine wpF_region rfl ?_   -- R3
  refine wpO_val rfl (x_moveI rfl) ?_
  refine wpO_val rfl (x_cmp rfl rfl rfl rfl) ?_
  refine wpO_val rfl (x_moveB rfl) ?_
  refine wpO_is (z := false) 25 rfl rfl ?_
  refine wpO_val rfl (x_moveP rfl) ?_
  refine wpO_val rfl (x_eqlNil Tryz.underlying38 rfl rfl) ?_
  refine wpO_val rfl (x_pickB rfl rfl) ?_
  refine wpO_nil ?_
  refine wpF_false rfl ?_
  refine wpF_skip ?_
  refine wpF_seq ?_
  refine wpF_seq ?_
  refine wpF_region rfl ?_   -- R5
  refine wpO_val rfl (x_assignI rfl) ?_
  refine wpO_nil ?_
  refine wpF_block ?_   -- block 0
  refine wpF_loop (fun n f w => ∃ k f0 g' B W, (k ≤ xs.length ∧ n = xs.length - k ∧ Le g g' ∧ BkG g' self nn B ∧ RbG k W) ∧ Holds c g' w ([bookA b17 B, rbookA b22 W] ++ F) ∧ f = updL f0 [(2, s.v), (8, .pointer (some ⟨b17, 0, none⟩)), (10, .pointer (some ⟨b22, 0, none⟩)), (11, .int .i64 (k : Nat))]) xs.length ?_ ?_
  · exact ⟨0, _, g, _, _, ⟨by omega, by omega, Le.refl g, BkG.new g self nn _ _ _, ⟨by simp, by simp⟩⟩, H, updL_eta ⟨rfl, rfl, rfl, rfl, trivial⟩⟩
  · rintro n f w ⟨k, f0, g', B, W, ⟨hk, hn, hle, hB, hW⟩, H, rfl⟩
    have hs' := hs.mono hle
    have ho := hW.owns
    refine wpF_seq ?_
    refine wpF_seq ?_
    refine wpF_region rfl ?_   -- R6
    refine wpO_val rfl (x_moveI rfl) ?_
    refine wpO_val rfl (x_moveL rfl) ?_
    refine wpO_val rfl (x_lenSl Tryz.underlying22 rfl) ?_
    refine wpO_val rfl (x_cmp rfl rfl rfl rfl) ?_
    refine wpO_nil ?_
    refine wpF_cond _ rfl (fun hc32 => ?_) (fun hc32 => ?_)
    ·
      have hk' : k < xs.length := by rw [← hlen]; simpa using hc32
      obtain ⟨x, hx⟩ : ∃ x, xs[k]? = some x := ⟨_, List.getElem?_eq_getElem hk'⟩
      have hxm := List.mem_of_getElem? hx
      have hok := hoks x hxm
      obtain ⟨legs, taxes, hsale0⟩ := hsales x hxm
      have hsale := hsale0.mono hle
      refine wpF_skip ?_
      refine wpF_seq ?_
      refine wpF_block ?_   -- block 1
      refine wpF_seq ?_
      refine wpF_region rfl ?_   -- R8
      refine wpO_val rfl (x_moveL rfl) ?_
      refine wpO_val rfl (x_moveI rfl) ?_
      refine wpO_val rfl (x_indexEl hs' Tryz.underlying22 Tryz.sizeOf66 rfl rfl (by omega) (by omega)) ?_
      refine wpO_val rfl (x_loadEl elBAct hs' H rfl hx) ?_
      refine wpO_eff rfl (e_alloc H Tryz.zeroValue66 fun b12 w H => ?_)
      refine wpO_eff0 rfl (e_storeAll (v := BAct.v x) H 2 rfl Tryz.sizeOf66 rfl rfl rfl rfl (by kernel_rfl) fun w H => ?_)
      refine wpO_nil ?_
      refine wpF_seq ?_
      refine wpF_region rfl ?_   -- R9
      refine wpO_val rfl (x_fieldAddrN Tryz.underlying66 rfl Tryz.sizeOf3 rfl rfl) ?_
      refine wpO_val rfl (x_load0bI Tryz.isAgg3 rfl (H.getF 2 rfl) rfl) ?_
      refine wpO_nil ?_
      refine wpF_block ?_   -- block 2
      refine wpF_seq ?_
      refine wpF_region rfl ?_   -- R10
      refine wpO_val rfl (x_cmp rfl rfl rfl rfl) ?_
      refine wpO_val rfl (x_assignB rfl) ?_
      refine wpO_nil ?_
      refine wpF_cond _ rfl (fun hc41 => ?_) (fun hc41 => ?_)
      ·
        refine wpF_seq ?_
        refine wpF_region rfl ?_   -- R11
        refine wpO_val rfl (x_moveP rfl) ?_
        refine wpO_val rfl (x_fieldAddrN Tryz.underlying66 rfl Tryz.sizeOf59 rfl rfl) ?_
        refine wpO_val rfl (x_load1V x.s.v Tryz.isAgg59 Tryz.sizeOf59 rfl (H.getF 2 rfl) (by kernel_rfl) (by kernel_rfl)) ?_
        refine wpO_eff rfl (e_callF (vs := [.pointer (some ⟨b17, 0, none⟩), x.s.v]) Tryz.call16 rfl ((issueB hB hsale hok.1 hok.2.1 hok.2.2 H 0 rfl).mono (Ret.mono ?_)))   -- of t43 t45
        rintro v46 w ⟨g46, B46, hle46, hb46, H⟩
        refine wpO_nil ?_
        refine wpF_region rfl ?_   -- R12
        refine wpO_val rfl (x_moveP rfl) ?_
        refine wpO_val rfl (x_fieldAddrN Tryz.underlying66 rfl Tryz.sizeOf59 rfl rfl) ?_
        refine wpO_val rfl (x_load1V x.s.v Tryz.isAgg59 Tryz.sizeOf59 rfl (H.getF 2 rfl) (by kernel_rfl) (by kernel_rfl)) ?_
        refine wpO_eff rfl (e_callF (vs := [.pointer (some ⟨b22, 0, none⟩), x.s.v]) Tryz.call24 rfl ((rissueB hW (by omega) (hsale.mono hle46) hok.1 hok.2.1 hok.2.2 H 1 rfl).mono (Ret.mono ?_)))   -- of t47 t49
        rintro v50 w ⟨g50, W50, hle50, hw50, H⟩
        refine wpO_nil ?_
        refine wpF_region rfl ?_   -- R7
        refine wpO_val rfl (x_moveI rfl) ?_
        refine wpO_val rfl (x_arith rfl rfl (fun _ => rfl) rfl) ?_
        refine wpO_val rfl (x_assignI rfl) ?_
        refine wpO_nil ?_
        refine ⟨xs.length - (k + 1), by omega, k + 1, _, g50, B46, W50, ⟨by omega, rfl, hle.trans (hle46.trans hle50), hb46.mono hle50, hw50⟩, H.sel [0, 1] 3 rfl rfl, updL_eta ⟨rfl, rfl, rfl, vi64 (w64 (by omega) (by omega)), trivial⟩⟩
      ·
        refine wpF_seq ?_
        refine wpF_region rfl ?_   -- R13
        refine wpO_val rfl (x_cmp rfl rfl rfl rfl) ?_
        refine wpO_val rfl (x_assignB rfl) ?_
        refine wpO_nil ?_
        refine wpF_cond _ rfl (fun hc51 => ?_) (fun hc51 => ?_)
        ·
          refine wpF_seq ?_
          refine wpF_region rfl ?_   -- R14
          refine wpO_val rfl (x_moveP rfl) ?_
          refine wpO_val rfl (x_fieldAddrN Tryz.underlying66 rfl Tryz.sizeOf27 rfl rfl) ?_
          refine wpO_val rfl (x_load1V x.k.v Tryz.isAgg27 Tryz.sizeOf27 rfl (H.getF 2 rfl) (by kernel_rfl) (by kernel_rfl)) ?_
          refine wpO_val rfl (x_fieldAddrN Tryz.underlying66 rfl Tryz.sizeOf43 rfl rfl) ?_
          refine wpO_val rfl (x_load1V x.o.v Tryz.isAgg43 Tryz.sizeOf43 rfl (H.getF 2 rfl) (by kernel_rfl) (by kernel_rfl)) ?_
          refine wpO_eff rfl (e_callF (vs := [.pointer (some ⟨b17, 0, none⟩), x.k.v, x.o.v]) Tryz.call17 rfl ((setOwn_i x.k x.o H 0 rfl).mono (Ret.mono ?_)))   -- of t53 t55 t57
          rintro v58 w ⟨rfl, H⟩
          refine wpO_nil ?_
          refine wpF_seq ?_
          refine wpF_region rfl ?_   -- R15
          refine wpO_val rfl (x_moveP rfl) ?_
          refine wpO_val rfl (x_fieldAddrN Tryz.underlying66 rfl Tryz.sizeOf27 rfl rfl) ?_
          refine wpO_val rfl (x_load1V x.k.v Tryz.isAgg27 Tryz.sizeOf27 rfl (H.getF 2 rfl) (by kernel_rfl) (by kernel_rfl)) ?_
          refine wpO_eff rfl (e_callF (vs := [.pointer (some ⟨b22, 0, none⟩), x.k.v]) Tryz.call28 rfl ((rown_i x.k (by omega) H 1 rfl).mono (Ret.mono ?_)))   -- of t59 t61
          rintro v62 w ⟨rfl, H⟩
          refine wpO_val rfl (x_assignI rfl) ?_
          refine wpO_nil ?_
          refine wpF_seq ?_
          refine wpF_region rfl ?_   -- R16
          refine wpO_val rfl (x_moveI rfl) ?_
          refine wpO_val rfl (x_cmp rfl rfl rfl rfl) ?_
          refine wpO_nil ?_
          refine wpF_cond _ rfl (fun hc64 => ?_) (fun hc64 => ?_)
          ·
            obtain ⟨i, hi, hfi⟩ := fidx_at (by simpa using hc64)
            obtain ⟨wself, wn, wds, wos, whs, wdocs, wowns, wothers⟩ := W
            simp only at hi hfi ho
            obtain ⟨bo, cpo, hos, _⟩ := Holds.rowSome (L := Rb.L ⟨wself, wn, wds, wos, whs, wdocs, wowns, wothers⟩ b22) (H.rbOut 1 rfl) 2 rfl (fun _ => rfl) rfl (by intro h'; have h' : wowns = [] := h'; rw [h'] at hi; simp at hi)
            simp only at hos
            subst hos
            rw [hfi]
            have H : Holds c g' w ((Rb.L ⟨wself, wn, wds, ⟨some ⟨bo, 0, none⟩, wowns.length, cpo⟩, whs, wdocs, wowns, wothers⟩ b22 ++ [bookA b17 (B.setOwn x.k x.o), pt b12 (.cells (BAct.v x).cells 66)]) ++ F) := H.rbOut 1 rfl
            refine wpF_drawC [0, 1, 2, 3, 4, 5, 6, 7, 8, 9] [9] [0, 0, 0, 0, 0, 0, 0, 0, 0, 1] (fun _ _ => True) mixed (by kernel_rfl) rfl fun w hw => ?_   -- R17 DRAWS [(9, 'store')]
            have H := H.to hw
            refine wpDC_e rfl rfl rfl rfl (x_moveP rfl) ?_
            refine wpDC_e rfl rfl rfl rfl (x_nilCheck rfl) ?_
            refine wpDC_e rfl rfl rfl rfl (x_fieldAddrN Tryz.underlying90 rfl Tryz.sizeOf87 rfl rfl) ?_
            refine wpDC_e rfl rfl rfl rfl (x_load0bL Tryz.isAgg87 rfl (H.getF 0 rfl) rfl) ?_
            refine wpDC_e rfl rfl rfl rfl (x_moveI rfl) ?_
            refine wpDC_e rfl rfl rfl rfl (x_fieldAddrN Tryz.underlying66 rfl Tryz.sizeOf43 rfl rfl) ?_
            refine wpDC_e rfl rfl rfl rfl (x_load1V x.o.v Tryz.isAgg43 Tryz.sizeOf43 rfl (H.getF 5 rfl) (by kernel_rfl) (by kernel_rfl)) ?_
            refine wpDC_e rfl rfl rfl rfl (x_indexSl Tryz.underlying87 Tryz.sizeOf93 rfl rfl (by omega) (by simpa using hi)) ?_
            refine wpDC_e rfl rfl rfl rfl (x_fieldAddrN (o' := 0 + i * 13 + 3) Tryz.underlying93 rfl Tryz.sizeOf43 rfl rfl) ?_
            refine wpDC_eff0 rfl rfl rfl (e_storeRowF (k := i) (o := 3) (v := x.o.v) H 2 rfl (fun _ => rfl) (⟨wowns[i].k, x.o⟩ : Mine) Tryz.sizeOf43 rfl rfl (List.getElem?_eq_getElem hi) rfl rfl (by kernel_rfl) (by kernel_rfl) fun w H => ⟨trivial, ?_⟩)
            refine wpDC_nil ?_
            refine wpF_region rfl ?_   -- R7
            refine wpO_val rfl (x_moveI rfl) ?_
            refine wpO_val rfl (x_arith rfl rfl (fun _ => rfl) rfl) ?_
            refine wpO_val rfl (x_assignI rfl) ?_
            refine wpO_nil ?_
            refine ⟨xs.length - (k + 1), by omega, k + 1, _, g', _, ⟨wself, wn, wds, ⟨some ⟨bo, 0, none⟩, wowns.length, cpo⟩, whs, wdocs, wowns.set i ⟨wowns[i].k, x.o⟩, wothers⟩, ⟨by omega, rfl, hle, hB.setOwn x.k x.o, ⟨by show (wowns.set i _).length ≤ _; rw [List.length_set]; omega, hW.up.others⟩⟩, Holds.sel (Holds.rbIn (L := [bookA b17 (B.setOwn x.k x.o), rbookA b22 ⟨wself, wn, wds, ⟨some ⟨bo, 0, none⟩, wowns.length, cpo⟩, whs, wdocs, wowns, wothers⟩, pt b12 (.cells (BAct.v x).cells 66)]) (b := b22) (W' := ⟨wself, wn, wds, ⟨some ⟨bo, 0, none⟩, wowns.length, cpo⟩, whs, wdocs, wowns.set i ⟨wowns[i].k, x.o⟩, wothers⟩) (i := 1) rfl H) [0, 1] 3 rfl rfl, updL_eta ⟨rfl, rfl, rfl, vi64 (w64 (by omega) (by omega)), trivial⟩⟩
          ·
            refine wpF_skip ?_
            refine wpF_region rfl ?_   -- R7
            refine wpO_val rfl (x_moveI rfl) ?_
            refine wpO_val rfl (x_arith rfl rfl (fun _ => rfl) rfl) ?_
            refine wpO_val rfl (x_assignI rfl) ?_
            refine wpO_nil ?_
            refine ⟨xs.length - (k + 1), by omega, k + 1, _, g', _, W, ⟨by omega, rfl, hle, hB.setOwn x.k x.o, hW.up⟩, H.sel [0, 1] 3 rfl rfl, updL_eta ⟨rfl, rfl, rfl, vi64 (w64 (by omega) (by omega)), trivial⟩⟩
        ·
          refine wpF_seq ?_
          refine wpF_region rfl ?_   -- R18
          refine wpO_val rfl (x_cmp rfl rfl rfl rfl) ?_
          refine wpO_val rfl (x_assignB rfl) ?_
          refine wpO_nil ?_
          refine wpF_cond _ rfl (fun hc74 => ?_) (fun hc74 => ?_)
          ·
            refine wpF_seq ?_
            refine wpF_region rfl ?_   -- R19
            refine wpO_val rfl (x_moveP rfl) ?_
            refine wpO_val rfl (x_fieldAddrN Tryz.underlying66 rfl Tryz.sizeOf27 rfl rfl) ?_
            refine wpO_val rfl (x_load1V x.k.v Tryz.isAgg27 Tryz.sizeOf27 rfl (H.getF 2 rfl) (by kernel_rfl) (by kernel_rfl)) ?_
            refine wpO_val rfl (x_fieldAddrN Tryz.underlying66 rfl Tryz.sizeOf64 rfl rfl) ?_
            refine wpO_val rfl (x_load1V x.h.v Tryz.isAgg64 Tryz.sizeOf64 rfl (H.getF 2 rfl) (by kernel_rfl) (by kernel_rfl)) ?_
            refine wpO_eff rfl (e_callF (vs := [.pointer (some ⟨b17, 0, none⟩), x.k.v, x.h.v]) Tryz.call18 rfl ((setHeld_i x.k x.h H 0 rfl).mono (Ret.mono ?_)))   -- of t76 t78 t80
            rintro v81 w ⟨rfl, H⟩
            refine wpO_nil ?_
            refine wpF_region rfl ?_   -- R20
            refine wpO_val rfl (x_moveP rfl) ?_
            refine wpO_val rfl (x_fieldAddrN Tryz.underlying66 rfl Tryz.sizeOf27 rfl rfl) ?_
            refine wpO_val rfl (x_load1V x.k.v Tryz.isAgg27 Tryz.sizeOf27 rfl (H.getF 2 rfl) (by kernel_rfl) (by kernel_rfl)) ?_
            refine wpO_val rfl (x_fieldAddrN Tryz.underlying66 rfl Tryz.sizeOf64 rfl rfl) ?_
            refine wpO_val rfl (x_load1V x.h.v Tryz.isAgg64 Tryz.sizeOf64 rfl (H.getF 2 rfl) (by kernel_rfl) (by kernel_rfl)) ?_
            refine wpO_eff rfl (e_callF (vs := [.pointer (some ⟨b22, 0, none⟩), x.k.v, x.h.v]) Tryz.call29 rfl ((rsetHeldB hW (by omega) x.k x.h H 1 rfl).mono (Ret.mono ?_)))   -- of t82 t84 t86
            rintro v87 w ⟨W87, hw87, H⟩
            refine wpO_nil ?_
            refine wpF_region rfl ?_   -- R7
            refine wpO_val rfl (x_moveI rfl) ?_
            refine wpO_val rfl (x_arith rfl rfl (fun _ => rfl) rfl) ?_
            refine wpO_val rfl (x_assignI rfl) ?_
            refine wpO_nil ?_
            refine ⟨xs.length - (k + 1), by omega, k + 1, _, g', _, W87, ⟨by omega, rfl, hle, hB.setHeld x.k x.h, hw87⟩, H.sel [0, 1] 3 rfl rfl, updL_eta ⟨rfl, rfl, rfl, vi64 (w64 (by omega) (by omega)), trivial⟩⟩
          ·
            refine wpF_skip ?_
            refine wpF_region rfl ?_   -- R7
            refine wpO_val rfl (x_moveI rfl) ?_
            refine wpO_val rfl (x_arith rfl rfl (fun _ => rfl) rfl) ?_
            refine wpO_val rfl (x_assignI rfl) ?_
            refine wpO_nil ?_
            refine ⟨xs.length - (k + 1), by omega, k + 1, _, g', B, W, ⟨by omega, rfl, hle, hB, hW.up⟩, H.sel [0, 1] 3 rfl rfl, updL_eta ⟨rfl, rfl, rfl, vi64 (w64 (by omega) (by omega)), trivial⟩⟩
    ·
      refine wpF_exit ?_   -- exit 0
      refine wpF_seq ?_
      refine wpF_region rfl ?_   -- R21
      refine wpO_val rfl (x_moveP rfl) ?_
      refine wpO_val rfl (x_moveP rfl) ?_
      refine wpO_val rfl (x_assignP rfl) ?_
      refine wpO_val rfl (x_assignP rfl) ?_
      refine wpO_nil ?_
      refine wpF_ret ?_
      repeat (with_reducible first | refine thenF_r ?_ | refine inBlockF_r ?_)
      refine end_tt rfl rfl rfl ?_   -- tmp:6 tmp:7
      exact ⟨g', b17, b22, B, W, rfl, hle, hB, H⟩
-- >> builtYes_c
-- << builtNo_c
theorem builtNo_c {c : Cx} {g : Heap} {w : World} {F : List Asn} {self : IK .u8} {nn : IK .i64} {s : Sl} (h0 : newOk self nn = false) (H : Holds c g w F) :
    Calls Tryz.prog 8 #[self.v, nn.v, s.v] w (Ret fun v w' => v = .tuple #[.pointer none, .pointer none] ∧ Holds c g w' F) := by
  have H : Holds c g w ([] ++ F) := H
  -- tarmac/tarmaclaw16.Built  (function 8; params ['5', '3', '22']; results tmp:6 tmp:7; ntmps 90)
  refine calls_of_wpF Tryz.func8 rfl Tryz.ntmps8 rfl ?_
  refine wpF_seq ?_
  refine wpF_region rfl ?_   -- R0
  refine wpO_val rfl (x_assignP rfl) ?_
  refine wpO_val rfl (x_assignP rfl) ?_
  refine wpO_nil ?_
  refine wpF_seq ?_
  refine wpF_region rfl ?_   -- R1
  refine wpO_val rfl (x_moveI rfl) ?_
  refine wpO_val rfl (x_moveI rfl) ?_
  refine wpO_eff rfl (e_callF (vs := [(self : IK .u8).v, (nn : IK .i64).v]) Tryz.call15 rfl ((newNoB h0 H).mono (Ret.mono ?_)))   -- of t15 t16
  rintro v17 w ⟨rfl, H⟩
  refine wpO_val rfl (x_moveT rfl) ?_
  refine wpO_val rfl (x_extractP rfl rfl) ?_
  refine wpO_val rfl (x_extractI rfl rfl) ?_
  refine wpO_val rfl (x_assignP rfl) ?_
  refine wpO_val rfl (x_assignI rfl) ?_
  refine wpO_nil ?_
  refine wpF_seq ?_
  refine wpF_region rfl ?_   -- R2
  refine wpO_val rfl (x_moveI rfl) ?_
  refine wpO_val rfl (x_moveI rfl) ?_
  refine wpO_eff rfl (e_callF (vs := [(self : IK .u8).v, (nn : IK .i64).v]) Tryz.call22 rfl ((rnewNoB h0 H).mono (Ret.mono ?_)))   -- of t20 t21
  rintro v22 w ⟨rfl, H⟩
  refine wpO_val rfl (x_assignP rfl) ?_
  refine wpO_nil ?_
  refine wpF_seq ?_
  refine wpF_seq ?_
  refine wpF_region rfl ?_   -- R3
  refine wpO_val rfl (x_moveI rfl) ?_
  refine wpO_val rfl (x_cmp rfl rfl rfl rfl) ?_
  refine wpO_val rfl (x_moveB rfl) ?_
  refine wpO_is (z := true) 25 rfl rfl ?_
  refine wpO_not rfl ?_
  refine wpO_not rfl ?_
  refine wpO_val rfl (x_pickB rfl rfl) ?_
  refine wpO_nil ?_
  refine wpF_true rfl ?_
  refine wpF_seq ?_
  refine wpF_region rfl ?_   -- R4
  refine wpO_val rfl (x_assignP rfl) ?_
  refine wpO_val rfl (x_assignP rfl) ?_
  refine wpO_nil ?_
  refine wpF_ret ?_
  repeat (with_reducible first | refine thenF_r ?_ | refine inBlockF_r ?_)
  refine end_tt rfl rfl rfl ?_   -- tmp:6 tmp:7
  exact ⟨rfl, H.sel [] 0 rfl rfl⟩
-- >> builtNo_c
end Go.Proofs.YtfoginganpgmcaaGreat
