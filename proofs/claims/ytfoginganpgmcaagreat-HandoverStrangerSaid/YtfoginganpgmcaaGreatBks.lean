/- Books as single entries of a walk's list. -/
import Derived.Test.YtfoginganpgmcaaGreatRef15
set_option linter.unusedSimpArgs false
set_option linter.unusedVariables false
namespace Go.Proofs.YtfoginganpgmcaaGreat
open Go Go.Tw
set_option maxRecDepth 100000

def bookA (b : Nat) (B : Bk) : Asn := star (B.L b)
def rbookA (b : Nat) (W : Rb) : Asn := star (W.L b)

section
variable {c : Cx} {g : Heap} {w : World} {L F : List Asn}
theorem _root_.Go.Tw.Holds.bkOut {b : Nat} {B : Bk} (H : Holds c g w (L ++ F)) (i : Nat) (hi : L[i]? = some (bookA b B)) : Holds c g w (B.L b ++ (L.eraseIdx i ++ F)) := Holds.star.1 (H.focusF i hi)
theorem _root_.Go.Tw.Holds.bkIn {b b' : Nat} {B B' : Bk} {i : Nat} (hi : L[i]? = some (bookA b' B)) (H : Holds c g w (B'.L b ++ (L.eraseIdx i ++ F))) : Holds c g w (L.set i (bookA b B') ++ F) := Holds.unfocusF hi (Holds.star.2 H)
theorem _root_.Go.Tw.Holds.bkBack {b : Nat} {B : Bk} {i : Nat} (hi : L[i]? = some (bookA b B)) (H : Holds c g w (B.L b ++ (L.eraseIdx i ++ F))) : Holds c g w (L ++ F) :=
  (Holds.star.2 H : Holds c g w (bookA b B :: (L.eraseIdx i ++ F))).perm ((set_perm (bookA b B) hi).2.append_right F).symm
theorem _root_.Go.Tw.Holds.rbOut {b : Nat} {W : Rb} (H : Holds c g w (L ++ F)) (i : Nat) (hi : L[i]? = some (rbookA b W)) : Holds c g w (W.L b ++ (L.eraseIdx i ++ F)) := Holds.star.1 (H.focusF i hi)
theorem _root_.Go.Tw.Holds.rbIn {b b' : Nat} {W W' : Rb} {i : Nat} (hi : L[i]? = some (rbookA b' W)) (H : Holds c g w (W'.L b ++ (L.eraseIdx i ++ F))) : Holds c g w (L.set i (rbookA b W') ++ F) := Holds.unfocusF hi (Holds.star.2 H)
theorem _root_.Go.Tw.Holds.rbBack {b : Nat} {W : Rb} {i : Nat} (hi : L[i]? = some (rbookA b W)) (H : Holds c g w (W.L b ++ (L.eraseIdx i ++ F))) : Holds c g w (L ++ F) :=
  (Holds.star.2 H : Holds c g w (rbookA b W :: (L.eraseIdx i ++ F))).perm ((set_perm (rbookA b W) hi).2.append_right F).symm
/-- One behind the list. -/
theorem _root_.Go.Tw.Holds.atEnd {A : Asn} (H : Holds c g w (A :: (L ++ F))) : Holds c g w ((L ++ [A]) ++ F) := by
  refine H.perm ?_
  rw [List.append_assoc]
  exact List.perm_middle.symm

theorem perm3 {α : Type} (X Y R : List α) : (X ++ (Y ++ R)).Perm ((Y ++ X) ++ R) := by
  have := (List.perm_append_comm (l₁ := X) (l₂ := Y)).append_right R
  rwa [List.append_assoc X Y R] at this
/-! the methods -/
theorem own_i {b : Nat} {B : Bk} (k : Key) (H : Holds c g w (L ++ F)) (i : Nat) (hi : L[i]? = some (bookA b B)) :
    Calls Tryz.prog 10 #[.pointer (some ⟨b, 0, none⟩), k.v] w (Ret fun v w' => v = foundO (kget B.owns k) ∧ Holds c g w' (L ++ F)) :=
  (bOwn_c B k (H.bkOut i hi)).mono (Ret.mono fun _ _ ⟨h, H⟩ => ⟨h, H.bkBack hi⟩)
theorem held_i {b : Nat} {B : Bk} (k : Key) (H : Holds c g w (L ++ F)) (i : Nat) (hi : L[i]? = some (bookA b B)) :
    Calls Tryz.prog 19 #[.pointer (some ⟨b, 0, none⟩), k.v] w (Ret fun v w' => v = foundH (kget B.helds k) ∧ Holds c g w' (L ++ F)) :=
  (bHeld_c B k (H.bkOut i hi)).mono (Ret.mono fun _ _ ⟨h, H⟩ => ⟨h, H.bkBack hi⟩)
theorem setOwn_i {b : Nat} {B : Bk} (k : Key) (o : Own) (H : Holds c g w (L ++ F)) (i : Nat) (hi : L[i]? = some (bookA b B)) :
    Calls Tryz.prog 17 #[.pointer (some ⟨b, 0, none⟩), k.v, o.v] w (Ret fun v w' => v = .int .i64 (B.setOwnE k) ∧ Holds c g w' (L.set i (bookA b (B.setOwn k o)) ++ F)) :=
  (bSetOwn_c B k o (H.bkOut i hi)).mono (Ret.mono fun _ _ ⟨h, H⟩ => ⟨h, H.bkIn hi⟩)
theorem setHeld_i {b : Nat} {B : Bk} (k : Key) (h : Held) (H : Holds c g w (L ++ F)) (i : Nat) (hi : L[i]? = some (bookA b B)) :
    Calls Tryz.prog 18 #[.pointer (some ⟨b, 0, none⟩), k.v, h.v] w (Ret fun v w' => v = .int .i64 (B.setHeldE k) ∧ Holds c g w' (L.set i (bookA b (B.setHeld k h)) ++ F)) :=
  (bSetHeld_c B k h (H.bkOut i hi)).mono (Ret.mono fun _ _ ⟨h, H⟩ => ⟨h, H.bkIn hi⟩)
theorem new_i (self : IK .u8) (n : IK .i64) (H : Holds c g w (L ++ F)) :
    Calls Tryz.prog 15 #[self.v, n.v] w (Ret fun v w' => (newOk self n = false ∧ v = .tuple #[.pointer none, .int .i64 1] ∧ Holds c g w' (L ++ F)) ∨
      (newOk self n = true ∧ ∃ b md mo mh, v = .tuple #[.pointer (some ⟨b, 0, none⟩), .int .i64 0] ∧ Holds c g w' ((L ++ [bookA b (Bk.new self n md mo mh)]) ++ F))) :=
  (bNew_c self n H).mono (Ret.mono fun _ _ h => h.elim .inl fun ⟨h0, b, md, mo, mh, hv, H⟩ => .inr ⟨h0, b, md, mo, mh, hv, Holds.atEnd (Holds.star.2 H)⟩)
theorem newOk_i (self : IK .u8) (n : IK .i64) (h0 : newOk self n = true) (H : Holds c g w (L ++ F)) :
    Calls Tryz.prog 15 #[self.v, n.v] w (Ret fun v w' => ∃ b md mo mh, v = .tuple #[.pointer (some ⟨b, 0, none⟩), .int .i64 0] ∧ Holds c g w' ((L ++ [bookA b (Bk.new self n md mo mh)]) ++ F)) :=
  (new_i self n H).mono (Ret.mono fun _ _ h => h.elim (fun h => by rw [h0] at h; cases h.1) fun h => h.2)
theorem clone_i {b : Nat} {B : Bk} {φ : Ticket → Option DocC} (hφ : DocsR g B.docs φ) (H : Holds c g w (L ++ F)) (i : Nat) (hi : L[i]? = some (bookA b B)) :
    Calls Tryz.prog 9 #[.pointer (some ⟨b, 0, none⟩)] w (Ret fun v w' => ∃ b' g' B', v = .pointer (some ⟨b', 0, none⟩) ∧ Le g g' ∧ BkLike B B' ∧ DocsR g' B'.docs φ ∧ Holds c g' w' ((L ++ [bookA b' B']) ++ F)) :=
  (bClone_c B hφ (H.bkOut i hi)).mono (Ret.mono fun _ _ ⟨b', g', B', hv, hle, hl, hd, H⟩ => ⟨b', g', B', hv, hle, hl, hd, Holds.atEnd (by
    have H1 : Holds c g' _ (bookA b' B' :: (B.L b ++ (L.eraseIdx i ++ F))) := Holds.star.2 H
    have H2 : Holds c g' _ (B.L b ++ (bookA b' B' :: (L.eraseIdx i ++ F))) := H1.perm List.perm_middle.symm
    have H3 : Holds c g' _ (bookA b B :: (bookA b' B' :: (L.eraseIdx i ++ F))) := Holds.star.2 H2
    refine H3.perm ((List.Perm.swap _ _ _).trans (.cons _ ?_))
    exact ((set_perm (bookA b B) hi).2.append_right F).symm)⟩)
theorem same_i {b b2 : Nat} {B B2 : Bk} {φ φ2 : Ticket → Option DocC} (hφ : DocsR g B.docs φ) (hφ2 : DocsR g B2.docs φ2) (H : Holds c g w (L ++ F)) (i j : Nat) (hi : L[i]? = some (bookA b B)) (hj : (L.eraseIdx i)[j]? = some (bookA b2 B2)) :
    Calls Tryz.prog 12 #[.pointer (some ⟨b, 0, none⟩), .pointer (some ⟨b2, 0, none⟩)] w (Ret fun v w' => v = .bool (bkSame φ φ2 B B2) ∧ Holds c g w' (L ++ F)) := by
  have H1 := H.bkOut i hi
  have H2 : Holds c g w (B.L b ++ (bookA b2 B2 :: ((L.eraseIdx i).eraseIdx j ++ F))) := H1.perm (List.Perm.append_left _ ((set_perm (bookA b2 B2) hj).2.append_right F))
  have H3 : Holds c g w (bookA b2 B2 :: (B.L b ++ ((L.eraseIdx i).eraseIdx j ++ F))) := H2.perm List.perm_middle
  have H4 : Holds c g w (B2.L b2 ++ (B.L b ++ ((L.eraseIdx i).eraseIdx j ++ F))) := Holds.star.1 H3
  have H5 : Holds c g w ((B.L b ++ B2.L b2) ++ ((L.eraseIdx i).eraseIdx j ++ F)) := H4.perm (perm3 _ _ _)
  refine (bSame_c B B2 hφ hφ2 H5).mono (Ret.mono fun v w ⟨h, H⟩ => ⟨h, ?_⟩)
  have K4 : Holds c g w (B2.L b2 ++ (B.L b ++ ((L.eraseIdx i).eraseIdx j ++ F))) := H.perm (perm3 _ _ _).symm
  have K3 : Holds c g w (bookA b2 B2 :: (B.L b ++ ((L.eraseIdx i).eraseIdx j ++ F))) := Holds.star.2 K4
  have K2 : Holds c g w (B.L b ++ (bookA b2 B2 :: ((L.eraseIdx i).eraseIdx j ++ F))) := K3.perm List.perm_middle.symm
  have K1 : Holds c g w (B.L b ++ (L.eraseIdx i ++ F)) := K2.perm (List.Perm.append_left _ ((set_perm (bookA b2 B2) hj).2.append_right F).symm)
  exact K1.bkBack hi
theorem issue_i {b : Nat} {B : Bk} (s : SaleP) (legs : List Leg) (taxes : List Tax) (hs : SaleR g s legs taxes) (hn : s.name.length ≤ 1000) (hl : legs.length ≤ 1000) (ht : taxes.length ≤ 1000) (H : Holds c g w (L ++ F)) (i : Nat) (hi : L[i]? = some (bookA b B)) :
    Calls Tryz.prog 16 #[.pointer (some ⟨b, 0, none⟩), s.v] w (Ret fun v w' => ∃ g', Le g g' ∧
      ((B.issueE s legs taxes ≠ 0 ∧ v = .tuple #[DocP.zero.v, .int .i64 (B.issueE s legs taxes)] ∧ Holds c g' w' (L ++ F)) ∨
       (B.issueE s legs taxes = 0 ∧ ∃ d d2 ys, v = .tuple #[DocP.v d2, .int .i64 0] ∧ NewDoc g' B.tick s legs taxes d (ys.map (·.n)) ∧ d2.bare = d.bare ∧ DocR g' d2 legs taxes (ys.map (·.n)) ∧ Holds c g' w' (L.set i (bookA b (B.issued d legs ys)) ++ F)))) :=
  (bIssue_c B s legs taxes hs hn hl ht (H.bkOut i hi)).mono (Ret.mono fun _ _ ⟨g', hle, h⟩ => ⟨g', hle, h.elim (fun ⟨h1, h2, H⟩ => .inl ⟨h1, h2, H.bkBack hi⟩) fun ⟨h0, d, d2, ys, h1, h2, h3, h4, H⟩ => .inr ⟨h0, d, d2, ys, h1, h2, h3, h4, H.bkIn hi⟩⟩)
/-- What comes of hearing, or of asking: the book's entry is turned, what is told is put behind. -/
def HearI (c : Cx) (g : Heap) (L F : List Asn) (i b : Nat) (r : HR) (v : Value) (w : World) : Prop := ∃ so, v = .tuple #[so.v, .int .i64 r.e] ∧ OutsOk so r.outs ∧ Holds c g w ((L.set i (bookA b r.B) ++ [outsA so r.outs]) ++ F)
theorem HearRet.toI {b : Nat} {B : Bk} {r : HR} {v : Value} {i : Nat} (hi : L[i]? = some (bookA b B)) (h : HearRet c g (L.eraseIdx i ++ F) b r v w) : HearI c g L F i b r v w := by
  obtain ⟨so, h1, h2, H⟩ := h
  refine ⟨so, h1, h2, Holds.atEnd ?_⟩
  have H0 : Holds c g w (outsA so r.outs :: (r.B.L b ++ (L.eraseIdx i ++ F))) := H
  have H1 : Holds c g w (r.B.L b ++ (outsA so r.outs :: (L.eraseIdx i ++ F))) := H0.perm List.perm_middle.symm
  have H2 : Holds c g w (bookA b r.B :: (outsA so r.outs :: (L.eraseIdx i ++ F))) := Holds.star.2 H1
  refine H2.perm ((List.Perm.swap _ _ _).trans (.cons _ ?_))
  exact ((set_perm (bookA b r.B) hi).1.append_right F).symm
theorem hear_i {b : Nat} {B : Bk} (fr : IK .u8) (m : Msg) (H : Holds c g w (L ++ F)) (i : Nat) (hi : L[i]? = some (bookA b B)) :
    Calls Tryz.prog 11 #[.pointer (some ⟨b, 0, none⟩), fr.v, m.v] w (Ret (HearI c g L F i b (B.hear fr m))) :=
  (hear_c B fr m (H.bkOut i hi)).mono (Ret.mono fun _ _ h => h.toI hi)
theorem want_i {b : Nat} {B : Bk} (k : Key) (H : Holds c g w (L ++ F)) (i : Nat) (hi : L[i]? = some (bookA b B)) :
    Calls Tryz.prog 33 #[.pointer (some ⟨b, 0, none⟩), k.v] w (Ret (HearI c g L F i b (B.want k))) :=
  (want_c B k (H.bkOut i hi)).mono (Ret.mono fun _ _ h => h.toI hi)
/-! the document's book -/
theorem rnew_i (self : IK .u8) (n : IK .i64) (H : Holds c g w (L ++ F)) :
    Calls Tryz.prog 22 #[self.v, n.v] w (Ret fun v w' => (newOk self n = false ∧ v = .pointer none ∧ Holds c g w' (L ++ F)) ∨
      (newOk self n = true ∧ ∃ bw, v = .pointer (some ⟨bw, 0, none⟩) ∧ Holds c g w' ((L ++ [rbookA bw ⟨self, n, Sl.nil, Sl.nil, Sl.nil, [], [], []⟩]) ++ F))) :=
  (rNew_c self n H).mono (Ret.mono fun _ _ h => h.elim .inl fun ⟨h0, b, hv, H⟩ => .inr ⟨h0, b, hv, Holds.atEnd (Holds.star.2 H)⟩)
theorem rown_i {b : Nat} {W : Rb} (k : Key) (hb : W.owns.length ≤ 1000000) (H : Holds c g w (L ++ F)) (i : Nat) (hi : L[i]? = some (rbookA b W)) :
    Calls Tryz.prog 28 #[.pointer (some ⟨b, 0, none⟩), k.v] w (Ret fun v w' => v = .int .i64 (fidx (fun x => decide (x.k = k)) W.owns) ∧ Holds c g w' (L ++ F)) :=
  (rOwn_c W k hb (H.rbOut i hi)).mono (Ret.mono fun _ _ ⟨h, H⟩ => ⟨h, H.rbBack hi⟩)
theorem rsetHeld_i {b : Nat} {W : Rb} (k : Key) (h : Held) (hb : W.others.length ≤ 1000000) (H : Holds c g w (L ++ F)) (i : Nat) (hi : L[i]? = some (rbookA b W)) :
    Calls Tryz.prog 29 #[.pointer (some ⟨b, 0, none⟩), k.v, h.v] w (Ret fun v w' => v = .int .i64 (W.setHeldE k) ∧
      ((W.setHeldE k ≠ 0 ∧ Holds c g w' (L ++ F)) ∨ (W.setHeldE k = 0 ∧ ∃ hs', Holds c g w' (L.set i (rbookA b { W with hs := hs', others := rput W.others k h }) ++ F)))) :=
  (rSetHeld_c W k h hb (H.rbOut i hi)).mono (Ret.mono fun _ _ ⟨h0, h⟩ => ⟨h0, h.elim (fun ⟨h1, H⟩ => .inl ⟨h1, H.rbBack hi⟩) fun ⟨h1, hs', H⟩ => .inr ⟨h1, hs', H.rbIn hi⟩⟩)
theorem rissue_i {b : Nat} {W : Rb} (s : SaleP) (legs : List Leg) (taxes : List Tax) (hb : W.owns.length ≤ 100000) (hs : SaleR g s legs taxes) (hn : s.name.length ≤ 1000) (hl : legs.length ≤ 1000) (ht : taxes.length ≤ 1000) (H : Holds c g w (L ++ F)) (i : Nat) (hi : L[i]? = some (rbookA b W)) :
    Calls Tryz.prog 24 #[.pointer (some ⟨b, 0, none⟩), s.v] w (Ret fun v w' => ∃ g', Le g g' ∧
      ((W.issueE s legs taxes ≠ 0 ∧ v = .tuple #[DocP.zero.v, .int .i64 (W.issueE s legs taxes)] ∧ Holds c g' w' (L ++ F)) ∨
       (W.issueE s legs taxes = 0 ∧ ∃ (sv : Sl) (ys : List (IK .i64)) (sd so : Sl), v = .tuple #[DocP.v (rDoc W.tick s sv), .int .i64 0] ∧ SlR g' encI 1 sv (ys.map (·.n)) ∧ RVals s.fare.n (legs.map fun l => l.wt.n) (ys.map (·.n)) ∧ ys.length = legs.length ∧
         Holds c g' w' (L.set i (rbookA b { W with ds := sd, os := so, docs := W.docs ++ [rDoc W.tick s sv], owns := W.owns ++ putL W.tick legs ys ys.length }) ++ F)))) :=
  (rIssue_c W s legs taxes hb hs hn hl ht (H.rbOut i hi)).mono (Ret.mono fun _ _ ⟨g', hle, h⟩ => ⟨g', hle, h.elim (fun ⟨h1, h2, H⟩ => .inl ⟨h1, h2, H.rbBack hi⟩) fun ⟨h0, sv, ys, sd, so, h1, h2, h3, h4, H⟩ => .inr ⟨h0, sv, ys, sd, so, h1, h2, h3, h4, H.rbIn hi⟩⟩)
end
end Go.Proofs.YtfoginganpgmcaaGreat
