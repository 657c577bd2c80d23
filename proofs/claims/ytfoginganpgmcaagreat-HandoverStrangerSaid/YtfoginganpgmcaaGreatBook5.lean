/- A book: Clone. -/
import Derived.Test.YtfoginganpgmcaaGreatBook4
set_option linter.unusedSimpArgs false
set_option linter.unusedVariables false
namespace Go.Proofs.YtfoginganpgmcaaGreat
open Go Go.Tw
set_option maxRecDepth 100000

theorem extClone (args : Array Value) (w : World) : (callFunc 84 args).run Tryz.prog w = ((Extern.MapsClone.clone args).run Tryz.prog w).andThen fun v w' => .ok (.value v) w' :=
  run_callFunc_extern Tryz.func84 (by kernel_rfl) (by kernel_rfl) (by kernel_rfl) (by kernel_rfl) args w

/-- What a document says, without its memory. -/
structure DocC where
  d : DocP
  legs : List Leg
  taxes : List Tax
  vals : List Int
  deriving DecidableEq
def _root_.Go.Tw.DocP.bare (d : DocP) : DocP := { d with s := { d.s with legs := Sl.nil, taxes := Sl.nil }, vals := Sl.nil }
structure DocIs (g : Heap) (d : DocP) (C : DocC) : Prop where
  r : DocR g d C.legs C.taxes C.vals
  eq : d.bare = C.d
  hl : C.legs.length ≤ 1000
  ht : C.taxes.length ≤ 1000
  hv : C.vals.length ≤ 1000
theorem _root_.Go.Tw.SaleR.mono {g g' : Heap} {s : SaleP} {legs : List Leg} {taxes : List Tax} (h : SaleR g s legs taxes) (hle : Le g g') : SaleR g' s legs taxes := ⟨h.l.mono hle, h.t.mono hle⟩
theorem DocR.mono {g g' : Heap} {d : DocP} {legs : List Leg} {taxes : List Tax} {vals : List Int} (h : DocR g d legs taxes vals) (hle : Le g g') : DocR g' d legs taxes vals := ⟨h.s.mono hle, h.v.mono hle⟩
theorem DocIs.mono {g g' : Heap} {d : DocP} {C : DocC} (h : DocIs g d C) (hle : Le g g') : DocIs g' d C := ⟨h.r.mono hle, h.eq, h.hl, h.ht, h.hv⟩
theorem DocIs.copy {g g' : Heap} {d : DocP} {C : DocC} {sl st sv : Sl} (h : DocIs g d C) (hr : DocR g' { d with s := { d.s with legs := sl, taxes := st }, vals := sv } C.legs C.taxes C.vals) : DocIs g' { d with s := { d.s with legs := sl, taxes := st }, vals := sv } C :=
  ⟨hr, h.eq, h.hl, h.ht, h.hv⟩
def DocM (g : Heap) : Option DocP → Option DocC → Prop
  | some d, some C => DocIs g d C
  | none, none => True
  | _, _ => False
theorem DocM.mono {g g' : Heap} {d : Option DocP} {C : Option DocC} (h : DocM g d C) (hle : Le g g') : DocM g' d C := by
  cases d <;> cases C <;> first | exact trivial | exact h.elim | exact DocIs.mono h hle
theorem DocM.some {g : Heap} {d : DocP} {C : Option DocC} (h : DocM g (some d) C) : ∃ C', C = some C' ∧ DocIs g d C' := by
  cases C with
  | none => exact h.elim
  | some C' => exact ⟨C', rfl, h⟩
/-- The documents of a book, read. -/
def DocsR (g : Heap) (docs : List (Ticket × DocP)) (φ : Ticket → Option DocC) : Prop := ∀ t, DocM g (kget docs t) (φ t)
theorem DocsR.mono {g g' : Heap} {docs : List (Ticket × DocP)} {φ : Ticket → Option DocC} (h : DocsR g docs φ) (hle : Le g g') : DocsR g' docs φ := fun t => (h t).mono hle

structure CloneInv (g : Heap) (φ : Ticket → Option DocC) (docs todo D : List (Ticket × DocP)) : Prop where
  keys : ∀ p ∈ todo, kget docs p.1 = some p.2
  nodup : (todo.map (·.1)).Nodup
  inD : ∀ t, t ∈ todo.map (·.1) → kget D t = none
  out : ∀ t, t ∉ todo.map (·.1) → DocM g (kget D t) (φ t)
  len : D.length + todo.length = docs.length
theorem CloneInv.start {g : Heap} {φ : Ticket → Option DocC} {docs : List (Ticket × DocP)} (h : DocsR g docs φ) (hn : (docs.map (·.1)).Nodup) : CloneInv g φ docs docs [] where
  keys p hp := mem_kget hn hp
  nodup := hn
  inD _ _ := rfl
  out t ht := by
    have h1 := h t
    rw [kget_none.2 ht] at h1
    exact h1
  len := by simp
theorem CloneInv.step {g g' : Heap} {φ : Ticket → Option DocC} {docs todo todo' D : List (Ticket × DocP)} {p : Ticket × DocP} {d : DocP} {C : DocC} (h : CloneInv g φ docs todo D) (hle : Le g g') (hp : todo.Perm (p :: todo')) (hC : φ p.1 = some C) (hd : DocIs g' d C) :
    CloneInv g' φ docs todo' (kput D p.1 d) := by
  have hk : (todo.map (·.1)).Perm (p.1 :: todo'.map (·.1)) := hp.map (·.1)
  have hn := hk.nodup_iff.1 h.nodup
  rw [List.nodup_cons] at hn
  refine ⟨fun q hq => h.keys q (hp.mem_iff.2 (List.mem_cons_of_mem _ hq)), hn.2, fun t ht => ?_, fun t ht => ?_, ?_⟩
  · rw [kget_kput, if_neg fun (e : p.1 = t) => hn.1 (e ▸ ht)]
    exact h.inD t (hk.mem_iff.2 (List.mem_cons_of_mem _ ht))
  · rw [kget_kput]
    by_cases e : p.1 = t
    · subst e
      rw [if_pos rfl, hC]
      exact hd
    · rw [if_neg e]
      refine (h.out t fun hm => ?_).mono hle
      rcases List.mem_cons.1 (hk.mem_iff.1 hm) with e' | hm
      · exact e e'.symm
      · exact ht hm
  · have h1 := h.inD p.1 (hk.mem_iff.2 (List.mem_cons_self ..))
    have h2 := hp.length_eq
    have h3 := h.len
    rw [kput_len, h1]
    simp at h2 ⊢
    omega
/-- Two books that have the same but for their documents' memory. -/
structure BkLike (B B' : Bk) : Prop where
  self : B'.self = B.self
  n : B'.n = B.n
  owns : B'.owns = B.owns
  helds : B'.helds = B.helds
  len : B'.docs.length = B.docs.length
-- << mapsCloneOwn_c
theorem mapsCloneOwn_c {c : Cx} {g : Heap} {w : World} {L F : List Asn} {m : Nat} {l : List (Key × Own)} (H : Holds c g w (L ++ F)) (i : Nat) (hi : L[i]? = some (mapA m Key.v Own.v l)) :
    Calls Tryz.prog 35 #[.map (some m)] w (Ret fun v w' => ∃ m', v = .map (some m') ∧ Holds c g w' (L ++ ([mapA m' Key.v Own.v l] ++ F))) := by
  -- maps.Clone[map[tarmac/api.Key]tarmac/api.Own,tarmac/api.Key,tarmac/api.Own]  (function 35; params ['102']; results tmp:2; ntmps 9)
  refine calls_of_wpF Tryz.func35 rfl Tryz.ntmps35 rfl ?_
  refine wpF_seq ?_
  refine wpF_region rfl ?_   -- R0
  refine wpO_val rfl (x_assignM rfl) ?_
  refine wpO_nil ?_
  refine wpF_seq ?_
  refine wpF_seq ?_
  refine wpF_region rfl ?_   -- R1
  refine wpO_val rfl (x_moveM rfl) ?_
  refine wpO_val rfl (x_eqlMapNil Tryz.underlying102 rfl rfl) ?_
  refine wpO_nil ?_
  refine wpF_false rfl ?_
  ·
    refine wpF_skip ?_
    refine wpF_seq ?_
    refine wpF_region rfl ?_   -- R3
    refine wpO_val rfl (x_moveM rfl) ?_
    refine wpO_val rfl (x_mkIfaceMap Tryz.underlying102 rfl) ?_
    obtain ⟨m', w', hr, H⟩ := run_mapsClone (P := Tryz.prog) (T := 102) H i hi
    refine wpO_eff rfl (e_ext (vs := [.iface 102 (.map (some m))]) extClone rfl hr ?_)
    refine wpO_val rfl (x_assertMap Tryz.underlying102 rfl) ?_
    refine wpO_val rfl (x_assignM rfl) ?_
    refine wpO_nil ?_
    refine wpF_ret ?_
    repeat (with_reducible first | refine thenF_r ?_ | refine inBlockF_r ?_)
    refine end_t rfl rfl ?_   -- tmp:2
    exact ⟨m', rfl, by rw [← List.append_assoc]; exact H⟩
-- >> mapsCloneOwn_c
-- << mapsCloneHeld_c
theorem mapsCloneHeld_c {c : Cx} {g : Heap} {w : World} {L F : List Asn} {m : Nat} {l : List (Key × Held)} (H : Holds c g w (L ++ F)) (i : Nat) (hi : L[i]? = some (mapA m Key.v Held.v l)) :
    Calls Tryz.prog 36 #[.map (some m)] w (Ret fun v w' => ∃ m', v = .map (some m') ∧ Holds c g w' (L ++ ([mapA m' Key.v Held.v l] ++ F))) := by
  -- maps.Clone[map[tarmac/api.Key]tarmac/api.Held,tarmac/api.Key,tarmac/api.Held]  (function 36; params ['103']; results tmp:2; ntmps 9)
  refine calls_of_wpF Tryz.func36 rfl Tryz.ntmps36 rfl ?_
  refine wpF_seq ?_
  refine wpF_region rfl ?_   -- R0
  refine wpO_val rfl (x_assignM rfl) ?_
  refine wpO_nil ?_
  refine wpF_seq ?_
  refine wpF_seq ?_
  refine wpF_region rfl ?_   -- R1
  refine wpO_val rfl (x_moveM rfl) ?_
  refine wpO_val rfl (x_eqlMapNil Tryz.underlying103 rfl rfl) ?_
  refine wpO_nil ?_
  refine wpF_false rfl ?_
  ·
    refine wpF_skip ?_
    refine wpF_seq ?_
    refine wpF_region rfl ?_   -- R3
    refine wpO_val rfl (x_moveM rfl) ?_
    refine wpO_val rfl (x_mkIfaceMap Tryz.underlying103 rfl) ?_
    obtain ⟨m', w', hr, H⟩ := run_mapsClone (P := Tryz.prog) (T := 103) H i hi
    refine wpO_eff rfl (e_ext (vs := [.iface 103 (.map (some m))]) extClone rfl hr ?_)
    refine wpO_val rfl (x_assertMap Tryz.underlying103 rfl) ?_
    refine wpO_val rfl (x_assignM rfl) ?_
    refine wpO_nil ?_
    refine wpF_ret ?_
    repeat (with_reducible first | refine thenF_r ?_ | refine inBlockF_r ?_)
    refine end_t rfl rfl ?_   -- tmp:2
    exact ⟨m', rfl, by rw [← List.append_assoc]; exact H⟩
-- >> mapsCloneHeld_c
def CloneX (c : Cx) (g : Heap) (B : Bk) (b : Nat) (F : List Asn) (E : List Asn) (w : World) : Prop := Holds c g w ((B.L b ++ E) ++ F)
theorem CloneX.mk {c : Cx} {g : Heap} {B : Bk} {b : Nat} {F E E0 : List Asn} {w : World} (H : Holds c g w ((B.L b ++ E0) ++ F)) (is : List Nat) (n : Nat) (hn : (B.L b ++ E0).length = n) (hs : selOk is n = true) (he : is.map (fun i => (B.L b ++ E0).getD i emp) = B.L b ++ E) :
    CloneX c g B b F E w := by
  have := H.sel is n hn hs
  rw [he] at this
  exact this
def CloneS (c : Cx) (g : Heap) (B : Bk) (b : Nat) (F : List Asn) (r : Option Value) (vs : List Value) (w : World) : Prop :=
  match r, vs with
  | none, [] => CloneX c g B b F [] w
  | some x, [] => ∃ bm, x = .map (some bm) ∧ CloneX c g B b F [pt bm (.map #[] 0)] w
  | none, [v] => ∃ m1, v = .map (some m1) ∧ CloneX c g B b F [mapA m1 Key.v Own.v B.owns] w
  | some x, [v] => ∃ m1 bm, v = .map (some m1) ∧ x = .map (some bm) ∧ CloneX c g B b F [mapA m1 Key.v Own.v B.owns, pt bm (.map #[] 0)] w
  | none, [v, u] => ∃ m1 m2, v = .map (some m1) ∧ u = .map (some m2) ∧ CloneX c g B b F [mapA m1 Key.v Own.v B.owns, mapA m2 Key.v Held.v B.helds] w
  | some x, [v, u] => ∃ m1 m2 bm, v = .map (some m1) ∧ u = .map (some m2) ∧ x = .map (some bm) ∧ CloneX c g B b F [mapA m1 Key.v Own.v B.owns, mapA m2 Key.v Held.v B.helds, pt bm (.map #[] 0)] w
  | some x, [v, u, z] => ∃ m1 m2 bm bb, v = .map (some m1) ∧ u = .map (some m2) ∧ x = .map (some bm) ∧ z = .pointer (some ⟨bb, 0, none⟩) ∧ CloneX c g B b F [mapA m1 Key.v Own.v B.owns, mapA m2 Key.v Held.v B.helds, pt bm (.map #[] 0), pt bb (bkO B.self B.n bm m1 m2)] w
  | _, _ => False
-- << bClone_c
theorem bClone_c {c : Cx} {g : Heap} {w : World} {F : List Asn} {b : Nat} (B : Bk) {φ : Ticket → Option DocC} (hφ : DocsR g B.docs φ) (H : Holds c g w (B.L b ++ F)) :
    Calls Tryz.prog 9 #[.pointer (some ⟨b, 0, none⟩)] w (Ret fun v w' => ∃ b' g' B', v = .pointer (some ⟨b', 0, none⟩) ∧ Le g g' ∧ BkLike B B' ∧ DocsR g' B'.docs φ ∧ Holds c g' w' (B'.L b' ++ (B.L b ++ F))) := by
  have hnd := H.keysNodup 1 rfl
  -- (*tarmac/book.Book).Clone  (function 9; params ['37']; results tmp:2; ntmps 47)
  refine calls_of_wpF Tryz.func9 rfl Tryz.ntmps9 rfl ?_
  refine wpF_seq ?_
  refine wpF_region rfl ?_   -- R0
  refine wpO_val rfl (x_assignP rfl) ?_
  refine wpO_nil ?_
  refine wpF_seq ?_
  refine wpF_seq ?_
  refine wpF_region rfl ?_   -- R1
  refine wpO_val rfl (x_moveP rfl) ?_
  refine wpO_val rfl (x_eqlNil Tryz.underlying37 rfl rfl) ?_
  refine wpO_nil ?_
  refine wpF_false rfl ?_
  refine wpF_skip ?_
  refine wpF_seq ?_
  -- R3 DRAWS; effects [(13, 'call'), (18, 'call'), (20, 'box')] float 8
  have hX : ∀ {E w}, CloneX c g B b F E w → Has c w (B.L b) := fun {E w} h => ⟨g, E ++ F, by rw [← List.append_assoc]; exact h⟩
  refine wpF_draw [0, 1, 2, 3, 4, 5, 6, 7, 9, 10, 11, 12, 14, 15, 16, 17, 13, 18, 8, 19, 20, 21] 8 (fun i => Nat.beq i 13 || Nat.beq i 18 || Nat.beq i 20) (fun w => Has c w (B.L b)) (CloneS c g B b F) mixed (by kernel_rfl) rfl ?hR (H.drew _) ?_
  case hR =>
    intro r vs w h
    match r, vs, h with
    | none, [], h => exact hX h
    | some _, [], ⟨_, _, h⟩ => exact hX h
    | none, [_], ⟨_, _, h⟩ => exact hX h
    | some _, [_], ⟨_, _, _, _, h⟩ => exact hX h
    | none, [_, _], ⟨_, _, _, _, h⟩ => exact hX h
    | some _, [_, _], ⟨_, _, _, _, _, _, h⟩ => exact hX h
    | some _, [_, _, _], ⟨_, _, _, _, _, _, _, _, h⟩ => exact hX h
    | none, _ :: _ :: _ :: _, h => exact h.elim
    | some _, _ :: _ :: _ :: _ :: _, h => exact h.elim
  refine wpDF_quiet rfl rfl rfl rfl (fun w HR => (x_moveP rfl)) ?_
  refine wpDF_quiet rfl rfl rfl rfl (fun w HR => (x_nilCheck rfl)) ?_
  refine wpDF_quiet rfl rfl rfl rfl (fun w HR => (x_fieldAddrN Tryz.underlying105 rfl Tryz.sizeOf5 rfl rfl)) ?_
  refine wpDF_quiet rfl rfl rfl rfl (fun w HR => (x_load0bI Tryz.isAgg5 rfl (HR.get 0 rfl) rfl)) ?_
  refine wpDF_quiet rfl rfl rfl rfl (fun w HR => (x_moveP rfl)) ?_
  refine wpDF_quiet rfl rfl rfl rfl (fun w HR => (x_nilCheck rfl)) ?_
  refine wpDF_quiet rfl rfl rfl rfl (fun w HR => (x_fieldAddrN Tryz.underlying105 rfl Tryz.sizeOf3 rfl rfl)) ?_
  refine wpDF_quiet rfl rfl rfl rfl (fun w HR => (x_load0bI Tryz.isAgg3 rfl (HR.get 0 rfl) rfl)) ?_
  refine wpDF_quiet rfl rfl rfl rfl (fun w HR => (x_moveP rfl)) ?_
  refine wpDF_quiet rfl rfl rfl rfl (fun w HR => (x_nilCheck rfl)) ?_
  refine wpDF_quiet rfl rfl rfl rfl (fun w HR => (x_fieldAddrN Tryz.underlying105 rfl Tryz.sizeOf102 rfl rfl)) ?_
  refine wpDF_quiet rfl rfl rfl rfl (fun w HR => (x_load0bM Tryz.isAgg102 rfl (HR.get 0 rfl) rfl)) ?_
  refine wpDF_quiet rfl rfl rfl rfl (fun w HR => (x_moveP rfl)) ?_
  refine wpDF_quiet rfl rfl rfl rfl (fun w HR => (x_nilCheck rfl)) ?_
  refine wpDF_quiet rfl rfl rfl rfl (fun w HR => (x_fieldAddrN Tryz.underlying105 rfl Tryz.sizeOf103 rfl rfl)) ?_
  refine wpDF_quiet rfl rfl rfl rfl (fun w HR => (x_load0bM Tryz.isAgg103 rfl (HR.get 0 rfl) rfl)) ?_
  refine wpDF_eff rfl rfl rfl rfl (fun r w hr H => ?_) (fun v hv => ?_)   -- 13
  · cases r with
    | none => exact e_callF (vs := [.map (some B.mo)]) Tryz.call35 rfl ((mapsCloneOwn_c (L := B.L b ++ []) H 2 rfl).mono (Ret.mono fun v w ⟨m', hv, H⟩ => ⟨m', hv, CloneX.mk (E0 := [_]) H [0, 1, 2, 3, 4] 5 rfl rfl rfl⟩))
    | some x =>
      obtain ⟨bm, hx, H⟩ := H
      exact e_callF (vs := [.map (some B.mo)]) Tryz.call35 rfl ((mapsCloneOwn_c (L := B.L b ++ [_]) H 2 rfl).mono (Ret.mono fun v w ⟨m', hv, H⟩ => ⟨m', bm, hv, hx, CloneX.mk (E0 := [_, _]) H [0, 1, 2, 3, 5, 4] 6 rfl rfl rfl⟩))
  have hv : ∃ m1, v = .map (some m1) := by
    obtain ⟨r, w, h⟩ := hv
    match r, h with
    | none, ⟨m1, h, _⟩ => exact ⟨m1, h⟩
    | some _, ⟨m1, _, h, _⟩ => exact ⟨m1, h⟩
  obtain ⟨m1, rfl⟩ := hv
  refine wpDF_eff rfl rfl rfl rfl (fun r w hr H => ?_) (fun v hv => ?_)   -- 18
  · cases r with
    | none =>
      obtain ⟨_, h, H⟩ := H
      cases h
      exact e_callF (vs := [.map (some B.mh)]) Tryz.call36 rfl ((mapsCloneHeld_c (L := B.L b ++ [_]) H 3 rfl).mono (Ret.mono fun v w ⟨m', hv, H⟩ => ⟨m1, m', rfl, hv, CloneX.mk (E0 := [_, _]) H [0, 1, 2, 3, 4, 5] 6 rfl rfl rfl⟩))
    | some x =>
      obtain ⟨_, bm, h, hx, H⟩ := H
      cases h
      exact e_callF (vs := [.map (some B.mh)]) Tryz.call36 rfl ((mapsCloneHeld_c (L := B.L b ++ [_, _]) H 3 rfl).mono (Ret.mono fun v w ⟨m', hv, H⟩ => ⟨m1, m', bm, rfl, hv, hx, CloneX.mk (E0 := [_, _, _]) H [0, 1, 2, 3, 4, 6, 5] 7 rfl rfl rfl⟩))
  have hv : ∃ m2, v = .map (some m2) := by
    obtain ⟨r, w, h⟩ := hv
    match r, h with
    | none, ⟨_, m2, _, h, _⟩ => exact ⟨m2, h⟩
    | some _, ⟨_, m2, _, _, h, _⟩ => exact ⟨m2, h⟩
  obtain ⟨m2, rfl⟩ := hv
  refine wpDF_float rfl rfl (fun vs w H => ?_) (fun x hv => ?_)   -- 8: makeMap
  · match vs, H with
    | [], H => exact e_makeMap (L := B.L b ++ []) H fun bm w H => ⟨bm, rfl, CloneX.mk (E0 := [_]) H [0, 1, 2, 3, 4] 5 rfl rfl rfl⟩
    | [v], ⟨m1, h1, H⟩ => exact e_makeMap (L := B.L b ++ [_]) H fun bm w H => ⟨m1, bm, h1, rfl, CloneX.mk (E0 := [_, _]) H [0, 1, 2, 3, 4, 5] 6 rfl rfl rfl⟩
    | [v, u], ⟨m1, m2, h1, h2, H⟩ => exact e_makeMap (L := B.L b ++ [_, _]) H fun bm w H => ⟨m1, m2, bm, h1, h2, rfl, CloneX.mk (E0 := [_, _, _]) H [0, 1, 2, 3, 4, 5, 6] 7 rfl rfl rfl⟩
    | _ :: _ :: _ :: _, H => exact H.elim
  have hv : ∃ bm, x = .map (some bm) := by
    obtain ⟨vs, w, h⟩ := hv
    match vs, h with
    | [], ⟨bm, h, _⟩ => exact ⟨bm, h⟩
    | [_], ⟨_, bm, _, h, _⟩ => exact ⟨bm, h⟩
    | [_, _], ⟨_, _, bm, _, _, h, _⟩ => exact ⟨bm, h⟩
    | [_, _, _], ⟨_, _, bm, _, _, _, h, _⟩ => exact ⟨bm, h⟩
    | _ :: _ :: _ :: _ :: _, h => exact h.elim
  obtain ⟨bm, rfl⟩ := hv
  refine wpDF_quiet rfl rfl rfl rfl (fun w HR => (x_buildSt stBook [B.self.v, B.n.v, .map (some bm), .map (some m1), .map (some m2)] rfl (cs := #[B.self.v, B.n.v, .map (some bm), .map (some m1), .map (some m2)]) rfl)) ?_
  refine wpDF_eff rfl rfl rfl rfl (fun r w hr H => ?_) (fun v hv => ?_)   -- 20: box
  · obtain rfl := hr rfl
    obtain ⟨_, _, _, h1, h2, h3, H⟩ := H
    cases h1; cases h2; cases h3
    exact e_boxA (L := B.L b ++ [_, _, _]) H rfl fun bb w H => ⟨m1, m2, bm, bb, rfl, rfl, rfl, rfl, CloneX.mk (E0 := [_, _, _, _]) H [0, 1, 2, 3, 4, 5, 6, 7] 8 rfl rfl rfl⟩
  have hv : ∃ bb, v = .pointer (some ⟨bb, 0, none⟩) := by
    obtain ⟨r, w, h⟩ := hv
    match r, h with
    | some _, ⟨_, _, _, bb, _, _, _, h, _⟩ => exact ⟨bb, h⟩
  obtain ⟨bb, rfl⟩ := hv
  refine wpDF_quiet rfl rfl rfl rfl (fun w HR => (x_assignP rfl)) ?_
  refine wpDF_nil fun w H => ?_
  obtain ⟨_, _, _, _, h1, h2, h3, h4, H⟩ := H
  cases h1; cases h2; cases h3; cases h4
  have H : Holds c g w ([pt b (bkO B.self B.n B.md B.mo B.mh), mapA B.md Ticket.v DocP.v B.docs, mapA B.mo Key.v Own.v B.owns, mapA B.mh Key.v Held.v B.helds, pt bb (bkO B.self B.n bm m1 m2), pt bm (.map #[] 0), mapA m1 Key.v Own.v B.owns, mapA m2 Key.v Held.v B.helds] ++ F) := Holds.sel (L := B.L b ++ [_, _, _, _]) H [0, 1, 2, 3, 7, 6, 4, 5] 8 rfl rfl
  have H := H.emptyAt (enc := Ticket.v) (encV := DocP.v) 5 rfl
  refine wpF_seq ?_
  refine wpF_seq ?_
  refine wpF_region rfl ?_   -- R4
  refine wpO_val rfl (x_moveP rfl) ?_
  refine wpO_val rfl (x_nilCheck rfl) ?_
  refine wpO_val rfl (x_fieldAddrN Tryz.underlying105 rfl Tryz.sizeOf101 rfl rfl) ?_
  refine wpO_val rfl (x_load0bM Tryz.isAgg101 rfl (H.getF 0 rfl) rfl) ?_
  refine wpO_eff rfl (e_range H 1 rfl Tryz.underlying101 rfl fun it33 w H => ?_)
  refine wpO_nil ?_
  refine wpF_block ?_   -- block 0
  refine wpF_loop (fun n f w => ∃ (f0 : Fr) (todo : List (Ticket × DocP)) (cur : Option (Ticket × DocP)) (D : List (Ticket × DocP)) (g' : Heap), (n = todo.length ∧ Le g g' ∧ CloneInv g' φ B.docs todo D) ∧ Holds c g' w ([pt b (bkO B.self B.n B.md B.mo B.mh), mapIt B.md it33 Ticket.v DocP.v B.docs todo cur, mapA B.mo Key.v Own.v B.owns, mapA B.mh Key.v Held.v B.helds, pt bb (bkO B.self B.n bm m1 m2), mapA bm Ticket.v DocP.v D, mapA m1 Key.v Own.v B.owns, mapA m2 Key.v Held.v B.helds] ++ F) ∧ f = updL f0 [(3, .pointer (some ⟨bb, 0, none⟩)), (33, .pointer (some ⟨it33, 0, none⟩))]) B.docs.length ?_ ?_
  · exact ⟨_, B.docs, none, [], g, ⟨rfl, Le.refl g, CloneInv.start hφ hnd⟩, H, updL_eta ⟨rfl, rfl, trivial⟩⟩
  · rintro n f w ⟨f0, todo, cur, D, g', ⟨rfl, hle, hinv⟩, H, rfl⟩
    refine wpF_seq ?_
    refine wpF_region rfl ?_   -- R5
    refine wpO_eff rfl (e_next H 1 rfl rfl (fun h0 => ?_) (fun p34 todo34 w hp34 H => ?_))
    ·
      refine wpO_val rfl (x_extractB rfl rfl) ?_
      refine wpO_nil ?_
      refine wpF_seq ?_
      refine wpF_false rfl ?_
      refine wpF_exit ?_   -- exit 0
      refine wpF_seq ?_
      refine wpF_region rfl ?_   -- R8
      refine wpO_val rfl (x_moveP rfl) ?_
      refine wpO_val rfl (x_assignP rfl) ?_
      refine wpO_nil ?_
      refine wpF_ret ?_
      repeat (with_reducible first | refine thenF_r ?_ | refine inBlockF_r ?_)
      refine end_t rfl rfl ?_   -- tmp:2
      subst h0
      exact ⟨bb, g', ⟨B.self, B.n, bm, m1, m2, D, B.owns, B.helds⟩, rfl, hle, ⟨rfl, rfl, rfl, rfl, hinv.len⟩, fun t => hinv.out t (by simp), Holds.sel (H.itDoneF 1 rfl) [4, 5, 6, 7, 0, 1, 2, 3] 8 rfl rfl⟩
    ·
      refine wpO_val rfl (x_extractB rfl rfl) ?_
      refine wpO_nil ?_
      refine wpF_seq ?_
      refine wpF_true rfl ?_
      refine wpF_skip ?_
      obtain ⟨C, hC, hdoc⟩ := DocM.some (by rw [← hinv.keys p34 (hp34.mem_iff.2 (List.mem_cons_self ..))]; exact hφ p34.1)
      refine wpF_block ?_   -- block 1
      refine wpF_seq ?_
      refine wpF_region rfl ?_   -- R6
      refine wpO_val rfl (x_entry H 1 rfl rfl) ?_
      refine wpO_val rfl (x_extractA rfl rfl) ?_
      refine wpO_val rfl (x_extractA rfl rfl) ?_
      refine wpO_eff rfl (e_alloc H Tryz.zeroValue25 fun b4 w H => ?_)
      refine wpO_eff rfl (e_alloc H Tryz.zeroValue62 fun b5 w H => ?_)
      refine wpO_eff0 rfl (e_storeAll H 8 rfl Tryz.sizeOf25 rfl rfl rfl rfl rfl fun w H => ?_)
      refine wpO_eff0 rfl (e_storeAll H 9 rfl Tryz.sizeOf62 rfl rfl rfl rfl rfl fun w H => ?_)
      refine wpO_nil ?_
      refine wpF_drawC [0, 1, 2, 3, 4, 5, 6, 7] [6, 7] [1, 1, 1, 1, 1, 0, 2, 2] (RH 1 c [pt b (bkO B.self B.n B.md B.mo B.mh), mapIt B.md it33 Ticket.v DocP.v B.docs todo34 (some p34), mapA B.mo Key.v Own.v B.owns, mapA B.mh Key.v Held.v B.helds, pt bb (bkO B.self B.n bm m1 m2), mapA bm Ticket.v DocP.v D, mapA m1 Key.v Own.v B.owns, mapA m2 Key.v Held.v B.helds, pt b4 (.cells p34.1.v.cells 25), pt b5 (.cells p34.2.v.cells 62)]) mixed (by kernel_rfl) rfl fun w hw => ?_
      have H := H.to hw
      have H0 := H.has
      refine wpDC_q rfl rfl rfl (fun w => (x_moveP rfl)) ?_
      refine wpDC_q rfl rfl rfl (fun w => (x_nilCheck rfl)) ?_
      refine wpDC_q rfl rfl rfl (fun w => (x_fieldAddrN Tryz.underlying105 rfl Tryz.sizeOf101 rfl rfl)) ?_
      refine wpDC_h rfl rfl rfl rfl rfl H0 (fun w HR => (x_load0bM Tryz.isAgg101 rfl (HR.get 4 rfl) rfl)) ?_
      refine wpDC_h rfl rfl rfl rfl rfl H0 (fun w HR => (x_load1 Tryz.isAgg25 Tryz.sizeOf25 rfl (HR.get 8 rfl) rfl)) ?_
      refine wpDC_e rfl rfl rfl rfl (x_load1V p34.2.v Tryz.isAgg62 Tryz.sizeOf62 rfl (H.getF 9 rfl) (by kernel_rfl) (by kernel_rfl)) ?_
      refine wpDC_eff rfl rfl rfl (e_callF (vs := [p34.2.v]) Tryz.call37 rfl ((copied_c p34.2 (hdoc.mono hle).r hdoc.hl hdoc.ht hdoc.hv H).mono (Ret.mono ?_)))
      rintro v45 w ⟨sl, st, sv, g2, rfl, hle2, hr2, H'⟩
      replace H := H.re H' rfl
      refine ⟨fun _ => H.has, ?_⟩
      refine wpDC_eff0 rfl rfl rfl (e_mapUpdate (a := p34.1) (u := { p34.2 with s := { p34.2.s with legs := sl, taxes := st }, vals := sv }) H 5 rfl keyTicket Tryz.underlying101 rfl rfl rfl fun w H => ⟨fun h => absurd h (by decide), ?_⟩)
      refine wpDC_nil ?_
      exact ⟨todo34.length, by rw [hp34.length_eq]; simp, _, todo34, some p34, _, g2, ⟨rfl, hle.trans hle2, hinv.step hle2 hp34 hC ((hdoc.mono hle).copy hr2)⟩, H.sel [0, 1, 2, 3, 4, 5, 6, 7] 10 rfl rfl, updL_eta ⟨rfl, rfl, trivial⟩⟩
-- >> bClone_c
end Go.Proofs.YtfoginganpgmcaaGreat
