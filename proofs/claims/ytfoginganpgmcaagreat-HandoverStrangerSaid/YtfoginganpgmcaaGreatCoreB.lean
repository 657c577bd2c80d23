/- A small separation logic over the model's heap: assertions with footprints, sealed memory, and what each kind of step does to them. Nothing here speaks of a program. -/
import Derived.Test.YtfoginganpgmcaaGreatCoreA
import Derived.Below
set_option linter.unusedSimpArgs false
set_option linter.unusedVariables false
namespace Go.Tw
open Go

abbrev Heap := Nat → Option Obj

/-- What never turns in a walk: the world outside, the tape, the streams. -/
structure Cx where
  os : Os
  tape : Nat → Question → Nat
  output : Array (Nat × ByteArray)

/-- An assertion on a part of the heap: it looks at its footprint alone, and its footprint is there. -/
structure Asn where
  p : Heap → (Nat → Prop) → Prop
  loc : ∀ h h' S, p h S → (∀ b, S b → h' b = h b) → p h' S
  dom : ∀ h S b, p h S → S b → h b ≠ none

/-- Block b holds just o. -/
def pt (b : Nat) (o : Obj) : Asn where
  p h S := h b = some o ∧ ∀ i, S i ↔ i = b
  loc := fun h h' S ⟨h1, h2⟩ hh => ⟨by rw [hh b ((h2 b).2 rfl)]; exact h1, h2⟩
  dom := fun h S b' ⟨h1, h2⟩ hb => by rw [(h2 b').1 hb, h1]; simp

def emp : Asn where
  p _ S := ∀ i, ¬ S i
  loc := fun _ _ _ h _ => h
  dom := fun _ _ b h hb => absurd hb (h b)

/-- A plain fact, with no memory. -/
def fact (q : Prop) : Asn where
  p _ S := q ∧ ∀ i, ¬ S i
  loc := fun _ _ _ h _ => h
  dom := fun _ _ b h hb => absurd hb (h.2 b)

def ex {α : Type} (A : α → Asn) : Asn where
  p h S := ∃ x, (A x).p h S
  loc := fun h h' S ⟨x, hx⟩ hh => ⟨x, (A x).loc h h' S hx hh⟩
  dom := fun h S b ⟨x, hx⟩ hb => (A x).dom h S b hx hb

/-- A list of assertions holds, apart from one another, within the blocks S. -/
def sat (h : Heap) : List Asn → (Nat → Prop) → Prop
  | [], _ => True
  | A :: L, S => ∃ T, A.p h T ∧ (∀ b, T b → S b) ∧ sat h L (fun b => S b ∧ ¬ T b)

theorem sat_mono {h : Heap} : ∀ {L : List Asn} {S S' : Nat → Prop}, sat h L S → (∀ b, S b → S' b) → sat h L S'
  | [], _, _, _, _ => trivial
  | _ :: _, _, _, ⟨T, h1, h2, h3⟩, hs => ⟨T, h1, fun b hb => hs b (h2 b hb), sat_mono h3 fun b hb => ⟨hs b hb.1, hb.2⟩⟩

theorem sat_loc {h h' : Heap} : ∀ {L : List Asn} {S : Nat → Prop}, sat h L S → (∀ b, S b → h b ≠ none → h' b = h b) → sat h' L S
  | [], _, _, _ => trivial
  | A :: _, _, ⟨T, h1, h2, h3⟩, hh => ⟨T, A.loc h h' T h1 fun b hb => hh b (h2 b hb) (A.dom h T b h1 hb), h2, sat_loc h3 fun b hb hn => hh b hb.1 hn⟩

theorem sat_swap {h : Heap} {A B : Asn} {L : List Asn} {S : Nat → Prop} (hs : sat h (A :: B :: L) S) : sat h (B :: A :: L) S := by
  obtain ⟨T, h1, h2, T', h3, h4, h5⟩ := hs
  refine ⟨T', h3, fun b hb => (h4 b hb).1, T, h1, fun b hb => ⟨h2 b hb, fun hb' => (h4 b hb').2 hb⟩, sat_mono h5 fun b hb => ⟨⟨hb.1.1, hb.2⟩, hb.1.2⟩⟩

theorem sat_perm {h : Heap} {L L' : List Asn} (hp : L.Perm L') : ∀ {S : Nat → Prop}, sat h L S → sat h L' S := by
  induction hp with
  | nil => exact fun h => h
  | cons A _ ih => exact fun ⟨T, h1, h2, h3⟩ => ⟨T, h1, h2, ih h3⟩
  | swap A B L => exact fun h => sat_swap h
  | trans _ _ ih1 ih2 => exact fun h => ih2 (ih1 h)

theorem sat_tail {h : Heap} {A : Asn} {L : List Asn} {S : Nat → Prop} : sat h (A :: L) S → sat h L S :=
  fun ⟨_, _, _, h3⟩ => sat_mono h3 fun _ hb => hb.1

/-- Some assertions, held together as one. -/
def star (l : List Asn) : Asn where
  p h S := ∃ S', sat h l S' ∧ (∀ b, S' b ↔ S b) ∧ ∀ b, S b → h b ≠ none
  loc := fun h h' S ⟨S', h1, h2, h3⟩ hh => ⟨S', sat_loc h1 fun b hb _ => hh b ((h2 b).1 hb), h2, fun b hb => by rw [hh b hb]; exact h3 b hb⟩
  dom := fun _ _ b ⟨_, _, _, h3⟩ hb => h3 b hb

theorem sat_append {h : Heap} : ∀ {l L : List Asn} {S : Nat → Prop}, sat h (l ++ L) S ↔ ∃ T, sat h l T ∧ (∀ b, T b → S b) ∧ (∀ b, T b → h b ≠ none) ∧ sat h L (fun b => S b ∧ ¬ T b)
  | [], L, S => ⟨fun hl => ⟨fun _ => False, trivial, fun _ h => h.elim, fun _ h => h.elim, sat_mono hl fun _ hb => ⟨hb, id⟩⟩, fun ⟨_, _, _, _, h3⟩ => sat_mono h3 fun _ hb => hb.1⟩
  | A :: l, L, S => by
    constructor
    · rintro ⟨T, h1, h2, h3⟩
      obtain ⟨T', k1, k2, k3, k4⟩ := sat_append.1 h3
      refine ⟨fun b => T b ∨ T' b, ⟨T, h1, fun b hb => .inl hb, sat_mono k1 fun b hb => ⟨.inr hb, (k2 b hb).2⟩⟩, ?_, ?_, sat_mono k4 fun b hb => ⟨hb.1.1, ?_⟩⟩
      · rintro b (hb | hb)
        · exact h2 b hb
        · exact (k2 b hb).1
      · rintro b (hb | hb)
        · exact A.dom h T b h1 hb
        · exact k3 b hb
      · rintro (hb' | hb')
        · exact hb.1.2 hb'
        · exact hb.2 hb'
    · rintro ⟨T, ⟨T1, h1, h2, h3⟩, k2, k3, k4⟩
      refine ⟨T1, h1, fun b hb => k2 b (h2 b hb), sat_append.2 ⟨fun b => T b ∧ ¬ T1 b, h3, fun b hb => ⟨k2 b hb.1, hb.2⟩, fun b hb => k3 b hb.1, sat_mono k4 fun b hb => ⟨⟨hb.1, fun hb' => hb.2 (h2 b hb')⟩, fun hb' => hb.2 hb'.1⟩⟩⟩

theorem sat_star {h : Heap} {l L : List Asn} {S : Nat → Prop} : sat h (star l :: L) S ↔ sat h (l ++ L) S := by
  rw [sat_append]
  constructor
  · rintro ⟨T, ⟨S', h1, h2, h3⟩, h4, h5⟩
    exact ⟨T, sat_mono h1 fun b hb => (h2 b).1 hb, h4, h3, h5⟩
  · rintro ⟨T, h1, h2, h3, h4⟩
    exact ⟨T, ⟨T, h1, fun _ => Iff.rfl, h3⟩, h2, h4⟩

theorem sat_ex {h : Heap} {α : Type} {A : α → Asn} {L : List Asn} {S : Nat → Prop} : sat h (ex A :: L) S ↔ ∃ x, sat h (A x :: L) S :=
  ⟨fun ⟨T, ⟨x, h1⟩, h2, h3⟩ => ⟨x, T, h1, h2, h3⟩, fun ⟨x, T, h1, h2, h3⟩ => ⟨T, ⟨x, h1⟩, h2, h3⟩⟩

theorem sat_fact {h : Heap} {q : Prop} {L : List Asn} {S : Nat → Prop} : sat h (fact q :: L) S ↔ q ∧ sat h L S :=
  ⟨fun ⟨_, ⟨hq, _⟩, _, h3⟩ => ⟨hq, sat_mono h3 fun _ hb => hb.1⟩, fun ⟨hq, hl⟩ => ⟨fun _ => False, ⟨hq, fun _ h => h⟩, fun _ h => h.elim, sat_mono hl fun _ hb => ⟨hb, id⟩⟩⟩

theorem sat_emp {h : Heap} {L : List Asn} {S : Nat → Prop} (hl : sat h L S) : sat h (emp :: L) S :=
  ⟨fun _ => False, fun _ h => h, fun _ h => h.elim, sat_mono hl fun _ hb => ⟨hb, id⟩⟩

/-- The state of a walk: the context stands, sealed memory g is as sealed, the assertions L hold apart from it and from one another. -/
structure Holds (c : Cx) (g : Heap) (w : World) (L : List Asn) : Prop where
  os : w.os = c.os
  tape : w.tape = c.tape
  output : w.output = c.output
  sld : ∀ b o, g b = some o → w.heap[b]? = some o
  sat : sat (fun b => w.heap[b]?) L (fun b => g b = none)

/-- Sealed memory has only grown. -/
def Le (g g' : Heap) : Prop := ∀ b o, g b = some o → g' b = some o
theorem Le.refl (g : Heap) : Le g g := fun _ _ h => h
theorem Le.trans {g g' g'' : Heap} (h : Le g g') (h' : Le g' g'') : Le g g'' := fun b o hb => h' b o (h b o hb)

section
variable {c : Cx} {g : Heap} {w : World} {L : List Asn}

theorem Holds.perm {L' : List Asn} (H : Holds c g w L) (hp : L.Perm L') : Holds c g w L' := ⟨H.os, H.tape, H.output, H.sld, sat_perm hp H.sat⟩
theorem Holds.tail {A : Asn} (H : Holds c g w (A :: L)) : Holds c g w L := ⟨H.os, H.tape, H.output, H.sld, sat_tail H.sat⟩

theorem Holds.star {l : List Asn} : Holds c g w (star l :: L) ↔ Holds c g w (l ++ L) :=
  ⟨fun H => ⟨H.os, H.tape, H.output, H.sld, sat_star.1 H.sat⟩, fun H => ⟨H.os, H.tape, H.output, H.sld, sat_star.2 H.sat⟩⟩
theorem Holds.ex {α : Type} {A : α → Asn} : Holds c g w (ex A :: L) ↔ ∃ x, Holds c g w (A x :: L) :=
  ⟨fun H => let ⟨x, h⟩ := sat_ex.1 H.sat; ⟨x, H.os, H.tape, H.output, H.sld, h⟩, fun ⟨x, H⟩ => ⟨H.os, H.tape, H.output, H.sld, sat_ex.2 ⟨x, H.sat⟩⟩⟩
theorem Holds.fact {q : Prop} : Holds c g w (fact q :: L) ↔ q ∧ Holds c g w L :=
  ⟨fun H => let ⟨h1, h2⟩ := sat_fact.1 H.sat; ⟨h1, H.os, H.tape, H.output, H.sld, h2⟩, fun ⟨hq, H⟩ => ⟨H.os, H.tape, H.output, H.sld, sat_fact.2 ⟨hq, H.sat⟩⟩⟩

/-- What a block holds. -/
theorem Holds.head {b : Nat} {o : Obj} (H : Holds c g w (pt b o :: L)) : w.heap[b]? = some o := by
  obtain ⟨T, h1, _, _⟩ := H.sat
  exact h1.1

theorem sat_get {h : Heap} {A : Asn} : ∀ {L : List Asn} {S : Nat → Prop} (i : Nat), L[i]? = some A → Go.Tw.sat h L S → ∃ T, A.p h T ∧ ∀ b, T b → S b
  | [], _, i, hi, _ => by simp at hi
  | B :: L, S, 0, hi, ⟨T, h1, h2, _⟩ => by
    simp at hi; subst hi; exact ⟨T, h1, h2⟩
  | B :: L, S, i + 1, hi, ⟨T, h1, h2, h3⟩ => by
    obtain ⟨T', k1, k2⟩ := sat_get i (by simpa using hi) h3
    exact ⟨T', k1, fun b hb => (k2 b hb).1⟩

theorem Holds.get {b : Nat} {o : Obj} (H : Holds c g w L) (i : Nat) (hi : L[i]? = some (pt b o)) : w.heap[b]? = some o := by
  obtain ⟨T, h1, _⟩ := sat_get i hi H.sat
  exact h1.1

/-- A draw turns nothing. -/
theorem Holds.drew (H : Holds c g w L) (n : Nat) : Holds c g { w with drawn := n } L := ⟨H.os, H.tape, H.output, H.sld, H.sat⟩

/-- A new block. -/
theorem Holds.alloc (H : Holds c g w L) (o : Obj) : Holds c g { w with heap := w.heap.push o } (L ++ [pt w.heap.size o]) := by
  have hold : ∀ b, w.heap[b]? ≠ none → (w.heap.push o)[b]? = w.heap[b]? := fun b hb => by
    have : b < w.heap.size := by
      cases Nat.lt_or_ge b w.heap.size with
      | inl h => exact h
      | inr h => exact absurd (Array.getElem?_eq_none h) hb
    rw [Array.getElem?_push, if_neg (by omega)]
  refine ⟨H.os, H.tape, H.output, fun b o' hb => ?_, ?_⟩
  · have := H.sld b o' hb
    rw [← this]; exact hold b (by rw [this]; simp)
  · have h1 : Go.Tw.sat (fun b => (w.heap.push o)[b]?) L (fun b => g b = none ∧ b ≠ w.heap.size) := by
      refine sat_loc (h := fun b => w.heap[b]?) ?_ fun b _ hn => hold b hn
      -- the old footprints do not have the new number
      have key : ∀ {L : List Asn} {S : Nat → Prop}, Go.Tw.sat (fun b => w.heap[b]?) L S → Go.Tw.sat (fun b => w.heap[b]?) L (fun b => S b ∧ b ≠ w.heap.size) := by
        intro L
        induction L with
        | nil => intro S _; exact trivial
        | cons A L ih =>
          rintro S ⟨T, h1, h2, h3⟩
          refine ⟨T, h1, fun b hb => ⟨h2 b hb, fun e => ?_⟩, sat_mono (ih h3) fun b hb => ⟨⟨hb.1.1, hb.2⟩, hb.1.2⟩⟩
          exact A.dom _ T b h1 hb (by subst e; simp)
      exact key H.sat
    refine sat_perm (List.perm_append_comm (l₁ := [pt w.heap.size o])) ?_
    refine ⟨fun b => b = w.heap.size, ⟨by simp, fun _ => Iff.rfl⟩, fun b hb => ?_, h1⟩
    subst hb
    cases hg : g w.heap.size with
    | none => rfl
    | some o' =>
      have := H.sld _ _ hg
      simp at this

/-- The heap's own change at one block that is held. -/
theorem Holds.turn {b : Nat} {o o' : Obj} {w' : World} (H : Holds c g w (pt b o :: L)) (h1 : w'.os = w.os) (h2 : w'.tape = w.tape) (h3 : w'.output = w.output)
    (h4 : w'.heap[b]? = some o') (h5 : ∀ i, i ≠ b → w'.heap[i]? = w.heap[i]?) : Holds c g w' (pt b o' :: L) := by
  obtain ⟨T, k1, k2, k3⟩ := H.sat
  have hb : g b = none := k2 b ((k1.2 b).2 rfl)
  refine ⟨h1.trans H.os, h2.trans H.tape, h3.trans H.output, fun i x hi => ?_, T, ⟨h4, k1.2⟩, k2, ?_⟩
  · rw [h5 i (fun e => by subst e; rw [hb] at hi; cases hi)]; exact H.sld i x hi
  · exact sat_loc k3 fun i hi _ => h5 i fun e => hi.2 ((k1.2 i).2 e)

theorem set_perm {α : Type} {A : α} : ∀ {L : List α} {i : Nat} (B : α), L[i]? = some A → (L.set i B).Perm (B :: L.eraseIdx i) ∧ L.Perm (A :: L.eraseIdx i)
  | [], _, _, h => by simp at h
  | x :: L, 0, B, h => by simp at h; subst h; exact ⟨.refl _, .refl _⟩
  | x :: L, i + 1, B, h => by
    have := set_perm (L := L) (i := i) B (by simpa using h)
    simp only [List.set_cons_succ, List.eraseIdx_cons_succ]
    exact ⟨(this.1.cons x).trans (.swap _ _ _), (this.2.cons x).trans (.swap _ _ _)⟩

theorem Holds.focus {A : Asn} (H : Holds c g w L) (i : Nat) (hi : L[i]? = some A) : Holds c g w (A :: L.eraseIdx i) := H.perm (set_perm A hi).2
theorem Holds.unfocus {A B : Asn} {i : Nat} (hi : L[i]? = some A) (H : Holds c g w (B :: L.eraseIdx i)) : Holds c g w (L.set i B) := H.perm (set_perm B hi).1.symm

/-- A store into a held block of cells. -/
theorem Holds.setCell {b : Nat} {cs : Array Value} {E : TypeId} {z : Nat × Nat} (H : Holds c g w (pt b (.cells cs E z) :: L)) (k : Nat) (v : Value) :
    Holds c g (w.setCell ⟨b, k, none⟩ v) (pt b (.cells (cs.setIfInBounds k v) E z) :: L) := by
  have hb := H.head
  refine H.turn rfl rfl rfl ?_ fun i hi => ?_
  · simp [World.setCell, Array.getElem?_modify, hb]
  · simp only [World.setCell, Array.getElem?_modify]
    rw [if_neg (by omega)]

/-- A held block that is never written again is sealed. -/
def gset (g : Heap) (b : Nat) (o : Obj) : Heap := fun i => if i = b then some o else g i

theorem Holds.doSeal {b : Nat} {o : Obj} (H : Holds c g w (pt b o :: L)) : Holds c (gset g b o) w L ∧ Le g (gset g b o) ∧ gset g b o b = some o := by
  obtain ⟨T, k1, k2, k3⟩ := H.sat
  have hb : g b = none := k2 b ((k1.2 b).2 rfl)
  refine ⟨⟨H.os, H.tape, H.output, fun i x hi => ?_, sat_mono k3 fun i hi => ?_⟩, fun i x hi => ?_, by simp [gset]⟩
  · unfold gset at hi
    split at hi
    · rename_i e; subst e; rw [← hi]; exact k1.1
    · exact H.sld i x hi
  · unfold gset
    rw [if_neg (fun e => hi.2 ((k1.2 i).2 e))]
    exact hi.1
  · unfold gset
    rw [if_neg (fun e => by subst e; rw [hb] at hi; cases hi)]
    exact hi

/-- The very start: all that is there is sealed. -/
theorem Holds.start (w : World) : Holds ⟨w.os, w.tape, w.output⟩ (fun b => w.heap[b]?) w [] := ⟨rfl, rfl, rfl, fun _ _ h => h, trivial⟩

end
/-! ### a list written out, ahead of a frame -/
section
variable {c : Cx} {g : Heap} {w : World} {L F : List Asn}

theorem Holds.focusF {A : Asn} (H : Holds c g w (L ++ F)) (i : Nat) (hi : L[i]? = some A) : Holds c g w (A :: (L.eraseIdx i ++ F)) :=
  H.perm ((set_perm A hi).2.append_right F)
theorem Holds.unfocusF {A B : Asn} {i : Nat} (hi : L[i]? = some A) (H : Holds c g w (B :: (L.eraseIdx i ++ F))) : Holds c g w (L.set i B ++ F) :=
  H.perm ((set_perm B hi).1.append_right F).symm
theorem Holds.getF {b : Nat} {o : Obj} (H : Holds c g w (L ++ F)) (i : Nat) (hi : L[i]? = some (pt b o)) : w.heap[b]? = some o := (H.focusF i hi).head
theorem Holds.allocF (H : Holds c g w (L ++ F)) (o : Obj) : Holds c g { w with heap := w.heap.push o } ((L ++ [pt w.heap.size o]) ++ F) := by
  refine (H.alloc o).perm ?_
  rw [List.append_assoc, List.append_assoc]
  exact List.Perm.append_left L List.perm_append_comm

def selOk (is : List Nat) (n : Nat) : Bool := (is ++ (List.range n).filter fun i => !is.contains i).isPerm (List.range n)

theorem range_getD {α : Type} (d : α) : ∀ L : List α, (List.range L.length).map (fun i => L.getD i d) = L
  | [] => rfl
  | x :: L => by
    rw [List.length_cons, List.range_succ_eq_map]
    simp only [List.map_cons, List.map_map, List.getD_cons_zero]
    congr 1
    have : ((fun i => (x :: L).getD i d) ∘ Nat.succ) = fun i => L.getD i d := by funext i; simp
    rw [this]
    exact range_getD d L

theorem Holds.left (H : Holds c g w (L ++ F)) : Holds c g w L := by
  refine ⟨H.os, H.tape, H.output, H.sld, ?_⟩
  obtain ⟨T, h1, h2, _⟩ := sat_append.1 H.sat
  exact sat_mono h1 h2

/-- Some of the list, in an order of our own choosing; the others are dropped. -/
theorem Holds.sel (H : Holds c g w (L ++ F)) (is : List Nat) (n : Nat) (hn : L.length = n) (h : selOk is n = true) : Holds c g w (is.map (fun i => L.getD i emp) ++ F) := by
  subst hn
  have hp := List.isPerm_iff.1 h
  have h1 : (is.map (fun i => L.getD i emp) ++ ((List.range L.length).filter fun i => !is.contains i).map (fun i => L.getD i emp)).Perm L := by
    rw [← List.map_append]
    have := hp.map (fun i => L.getD i emp)
    rw [range_getD] at this
    exact this
  have h2 : Holds c g w ((is.map (fun i => L.getD i emp) ++ F) ++ ((List.range L.length).filter fun i => !is.contains i).map (fun i => L.getD i emp)) := by
    refine H.perm ?_
    refine (h1.symm.append_right F).trans ?_
    rw [List.append_assoc, List.append_assoc]
    exact List.Perm.append_left _ List.perm_append_comm
  exact h2.left
end
end Go.Tw
