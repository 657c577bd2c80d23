/- Slices: headers, rows of the walk's own, sealed slices, append. Nothing here speaks of a program. -/
import Derived.Test.YtfoginganpgmcaaGreatCoreM
set_option linter.unusedSimpArgs false
set_option linter.unusedVariables false
namespace Go.Tw
open Go

/-- A slice's header. -/
structure Sl where
  a : Option Addr
  len : Nat
  cap : Nat
  deriving DecidableEq
def Sl.v (s : Sl) : Value := .slice s.a s.len s.cap
def Sl.nil : Sl := ⟨none, 0, 0⟩

/-- A row of the walk's own: m cells an element; xs: all cells up to the length. -/
def rowA (E : TypeId) (m : Nat) (s : Sl) (xs : List Value) : Asn :=
  match s.a with
  | none => fact (s.len = 0 ∧ s.cap = 0 ∧ xs = [])
  | some a => ex fun junk : List Value => star [fact (a.off = 0 ∧ a.spot = none ∧ xs.length = s.len * m ∧ xs.length + junk.length = s.cap * m ∧ s.len ≤ s.cap), pt a.block (.cells (xs ++ junk).toArray E)]

/-- What the program's table says of an element's type. -/
structure El (P : Program) (e : TypeId) (m by_ : Nat) (z : Value) : Prop where
  info : ∃ i, P.info? e = some i ∧ i.size = m ∧ i.bytes = by_ ∧ i.zero = some z
  zs : z.cells.size = m
  pos : 0 < m

section
variable {c : Cx} {g : Heap} {w : World} {L F : List Asn} {E : TypeId} {m : Nat} {s : Sl} {xs : List Value}

theorem Holds.row_nil (H : Holds c g w L) : Holds c g w (rowA E m Sl.nil [] :: L) := Holds.fact.2 ⟨⟨rfl, rfl, rfl⟩, H⟩

theorem Holds.row_some {b n cp : Nat} : Holds c g w (rowA E m ⟨some ⟨b, 0, none⟩, n, cp⟩ xs :: L) ↔ ∃ junk, (xs.length = n * m ∧ xs.length + junk.length = cp * m ∧ n ≤ cp) ∧ Holds c g w (pt b (.cells (xs ++ junk).toArray E) :: L) := by
  unfold rowA
  simp only
  rw [Holds.ex]
  constructor
  · rintro ⟨j, h⟩
    rw [Holds.star] at h
    obtain ⟨h1, h2⟩ := Holds.fact.1 h
    exact ⟨j, h1.2.2, h2⟩
  · rintro ⟨j, h1, h2⟩
    exact ⟨j, Holds.star.2 (Holds.fact.2 ⟨⟨trivial, trivial, h1⟩, h2⟩)⟩

/-- The two shapes. -/
theorem Holds.row_cases (H : Holds c g w (rowA E m s xs :: L)) : (s = Sl.nil ∧ xs = [] ∧ Holds c g w L) ∨ ∃ b, s.a = some ⟨b, 0, none⟩ := by
  obtain ⟨a, n, cp⟩ := s
  cases a with
  | none =>
    obtain ⟨⟨h1, h2, h3⟩, H2⟩ := Holds.fact.1 H
    left
    simp at h1 h2
    subst h1; subst h2; subst h3
    exact ⟨rfl, rfl, H2⟩
  | some a =>
    right
    unfold rowA at H
    simp only at H
    rw [Holds.ex] at H
    obtain ⟨j, H⟩ := H
    rw [Holds.star] at H
    obtain ⟨⟨h1, h2, _⟩, _⟩ := Holds.fact.1 H
    obtain ⟨b, o, sp⟩ := a
    simp at h1 h2
    subst h1; subst h2
    exact ⟨b, rfl⟩

theorem oneCell_kit {v : Value} (h : oneCell v = true) : v.oneCell' = true := by cases v <;> simp [oneCell] at h <;> rfl

variable {P : Program} {f : Fr} {d : Option Nat} {ty : TypeId} {pos : String} {af : Array Edge} {gd : Option (Nat × Bool)} {R : Value → World → Prop}

theorem run_append_sl {T by_ : Nat} {z : Value} (H : Holds c g w (rowA E m s xs :: L)) (hT : P.underlying T = some (.slice E)) (he : El P E m by_ z) {a : Addr} {n cx : Nat} {news : List Value}
    (hl : news.length = n * m) (hnews : ∀ j v, news[j]? = some v → w.cell? (a.add j) = some v) (h1 : news.all oneCell = true) (hb : (s.len + n) * by_ ≤ 140737488355328) (hq : s.len + n ≤ 9223372036854775807) :
    ∃ s' w', (Builtin.append_ #[T, T] ty #[s.v, .slice (some a) n cx]).run P w = .ok s'.v w' ∧ s'.len = s.len + n ∧ (s'.a = none → s.a = none ∧ n = 0) ∧ Holds c g w' (rowA E m s' (xs ++ news) :: L) := by
  obtain ⟨i, hi, rfl, rfl, hz⟩ := he.info
  have h1' : ∀ u ∈ news, u.oneCell' = true := fun u hu => oneCell_kit (List.all_eq_true.1 h1 u hu)
  have hcut : ∀ need old : Nat, need ≤ grownCap w need old E := fun need old => Go.grownCap_ge w need old E
  have hdrew : Holds c g w.drew (rowA E i.size s xs :: L) := H.drew _
  have fin : ∀ (old : Nat) (ys : List Value), ys.length = s.len * i.size → (w.drew.heap = w.heap) →
      Holds c g (w.drew.alloc (.cells (ys.toArray ++ news.toArray ++ Builtin.zeroCells z.cells (grownCap w (s.len + n) old E - (s.len + n))) E))
        (rowA E i.size ⟨some ⟨w.heap.size, 0, none⟩, s.len + n, grownCap w (s.len + n) old E⟩ (ys ++ news) :: L) := by
    intro old ys hys _
    have h2 : Holds c g w.drew L := hdrew.tail
    have h3 := h2.alloc (.cells (ys.toArray ++ news.toArray ++ Builtin.zeroCells z.cells (grownCap w (s.len + n) old E - (s.len + n))) E)
    have h4 : Holds c g (w.drew.alloc (.cells (ys.toArray ++ news.toArray ++ Builtin.zeroCells z.cells (grownCap w (s.len + n) old E - (s.len + n))) E)) ([pt w.heap.size (.cells (ys.toArray ++ news.toArray ++ Builtin.zeroCells z.cells (grownCap w (s.len + n) old E - (s.len + n))) E)] ++ L) :=
      h3.perm List.perm_append_comm
    refine Holds.row_some.2 ⟨(Builtin.zeroCells z.cells (grownCap w (s.len + n) old E - (s.len + n))).toList, ⟨?_, ?_, hcut _ _⟩, ?_⟩
    · rw [List.length_append, hys, hl, Nat.add_mul]
    · have := hcut (s.len + n) old
      rw [List.length_append, hys, hl, Array.length_toList, size_zeroCells, he.zs, ← Nat.add_mul, ← Nat.add_mul]
      congr 1
      omega
    · have e : (ys ++ news ++ (Builtin.zeroCells z.cells (grownCap w (s.len + n) old E - (s.len + n))).toList).toArray = ys.toArray ++ news.toArray ++ Builtin.zeroCells z.cells (grownCap w (s.len + n) old E - (s.len + n)) := by
        apply Array.ext'; simp
      rw [e]
      exact h4
  rcases H.row_cases with ⟨rfl, rfl, H'⟩ | ⟨b, hsa⟩
  · by_cases hn : n = 0
    · subst hn
      have hnil : news = [] := by simpa using hl
      subst hnil
      refine ⟨Sl.nil, w, ?_, rfl, fun _ => ⟨rfl, rfl⟩, H⟩
      simp [Builtin.append_, run_underlying hT, sizeOf, typeInfo, hi, Builtin.lenOf, Sl.v, Sl.nil, Builtin.firstCells, loadCells, loadCellsFrom]
    · have hr := run_append_nil (P := P) w T ty E i z hT hi hz a n cx news hl hnews (by omega) (by simp [Sl.nil] at hq; omega) (by simp [Sl.nil] at hb; omega)
      have hf := fin 0 [] (by simp [Sl.nil]) rfl
      simp only [Sl.nil, Nat.zero_add] at hf
      refine ⟨⟨some ⟨w.heap.size, 0, none⟩, n, grownCap w n 0 E⟩, _, hr, by simp [Sl.nil], fun h => by simp at h, ?_⟩
      simpa using hf
  · obtain ⟨sa, sl, sc⟩ := s
    simp at hsa
    subst hsa
    obtain ⟨junk, ⟨k1, k2, k3⟩, H'⟩ := Holds.row_some.1 H
    have hblk := H'.head
    by_cases hfit : sl + n ≤ sc
    · have hsize : sl * i.size + news.length ≤ (xs ++ junk).toArray.size := by
        simp only [List.size_toArray, List.length_append]
        rw [hl, k2, ← Nat.add_mul]
        exact Nat.mul_le_mul_right _ hfit
      have hr := run_append_room (P := P) w T ty E i hT hi b sl sc (xs ++ junk).toArray hblk a n cx news hl hnews h1' hfit hsize
      refine ⟨⟨some ⟨b, 0, none⟩, sl + n, sc⟩, _, hr, rfl, fun h => by simp at h, Holds.row_some.2 ⟨junk.drop news.length, ⟨?_, ?_, hfit⟩, ?_⟩⟩
      · rw [List.length_append, k1, hl, Nat.add_mul]
      · rw [List.length_append, List.length_drop]
        simp only [List.size_toArray, List.length_append] at hsize
        omega
      · refine H'.turn rfl rfl rfl ?_ fun j hj => ?_
        · rw [setRow_heap w b _ _ E _ hblk]
          congr 3
          simp only [List.toList_toArray]
          rw [← k1, List.take_left]
          simp [List.drop_append]
        · exact setRow_other w b j _ hj
    · have holds : ∀ j v, xs[j]? = some v → w.cell? ((⟨b, 0, none⟩ : Addr).add j) = some v := fun j v hj => by
        rw [add_off, cell_of hblk]
        have hlt : j < xs.length := (List.getElem?_eq_some_iff.1 hj).1
        simp [List.getElem?_append_left hlt, hj]
      have hr := run_append_grow (P := P) w T ty E i z hT hi hz ⟨b, 0, none⟩ sl sc xs k1 holds a n cx news hl hnews (by omega) (by simp only at hq; omega) (growslice_fits (by omega) (by simpa using hb))
      exact ⟨⟨some ⟨w.heap.size, 0, none⟩, sl + n, grownCap w (sl + n) sc E⟩, _, hr, rfl, fun h => by simp at h, fin sc xs k1 rfl⟩

theorem e_append {T by_ : Nat} {z : Value} {x y : Operand} (H : Holds c g w (L ++ F)) (i : Nat) (hi : L[i]? = some (rowA E m s xs)) (hT : P.underlying T = some (.slice E)) (he : El P E m by_ z) {a : Addr} {n cx : Nat} {news : List Value}
    (hx : ev f x = s.v) (hy : ev f y = .slice (some a) n cx)
    (hl : news.length = n * m) (hnews : ∀ j v, news[j]? = some v → w.cell? (a.add j) = some v) (h1 : news.all oneCell = true) (hb : (s.len + n) * by_ ≤ 140737488355328) (hq : s.len + n ≤ 9223372036854775807)
    (k : ∀ s' w', s'.len = s.len + n → (s'.a = none → s.a = none ∧ n = 0) → Holds c g w' (L.set i (rowA E m s' (xs ++ news)) ++ F) → R s'.v w') :
    EffAt P ⟨d, .call ⟨.builtin .append, #[x, y], #[T, T]⟩, ty, pos, af, gd⟩ f w R := by
  obtain ⟨s', w', hr, h2, h3, H'⟩ := run_append_sl (P := P) (ty := ty) (cx := cx) (H.focusF i hi) hT he hl hnews h1 hb hq
  refine e_val (v := s'.v) (w' := w') ?_ (k s' w' h2 h3 (Holds.unfocusF hi H'))
  show (do let v ← Builtin.append_ #[T, T] ty (#[x, y].map (ev f)); pure (Next.value v) : Sem Next).run P w = _
  rw [show #[x, y].map (ev f) = #[ev f x, ev f y] by simp, hx, hy]
  simp only [Sem.run_bind, hr, Result.andThen_ok, Sem.run_pure]
end

section
variable {c : Cx} {g : Heap} {w : World} {L F : List Asn} {E : TypeId} {m : Nat} {s : Sl} {xs : List Value} {P : Program} {f : Fr} {d : Option Nat} {ty : TypeId} {pos : String} {af : Array Edge} {gd : Option (Nat × Bool)} {R : Value → World → Prop}
/-- A literal that is appended. -/
theorem e_appendLit {T by_ : Nat} {z : Value} {x y : Operand} (H : Holds c g w (L ++ F)) (i j : Nat) {b n : Nat} {cs : Array Value} {E' : TypeId} (hi : L[i]? = some (rowA E m s xs)) (hj : L[j]? = some (pt b (.cells cs E'))) (hT : P.underlying T = some (.slice E)) (he : El P E m by_ z)
    (hx : ev f x = s.v) (hy : ev f y = .slice (some ⟨b, 0, none⟩) n n)
    (hl : cs.size = n * m) (h1 : cs.toList.all oneCell = true) (hb : (s.len + n) * by_ ≤ 140737488355328) (hq : s.len + n ≤ 9223372036854775807)
    (k : ∀ s' w', s'.len = s.len + n → (s'.a = none → s.a = none ∧ n = 0) → Holds c g w' (L.set i (rowA E m s' (xs ++ cs.toList)) ++ F) → R s'.v w') :
    EffAt P ⟨d, .call ⟨.builtin .append, #[x, y], #[T, T]⟩, ty, pos, af, gd⟩ f w R := by
  refine e_append H i hi hT he hx hy (by simpa using hl) (fun j' v hv => ?_) h1 hb hq k
  rw [add_off, cell_of (H.getF j hj)]
  simpa using hv
theorem Holds.toRow {b n : Nat} {cs : Array Value} (H : Holds c g w (pt b (.cells cs E) :: L)) (h : cs.size = n * m) : Holds c g w (rowA E m ⟨some ⟨b, 0, none⟩, n, n⟩ cs.toList :: L) :=
  Holds.row_some.2 ⟨[], ⟨by simpa using h, by simpa using h, Nat.le_refl _⟩, by simpa using H⟩
theorem Holds.toRowAt {b n : Nat} {cs : Array Value} (H : Holds c g w (L ++ F)) (i : Nat) (hi : L[i]? = some (pt b (.cells cs E))) (h : cs.size = n * m) : Holds c g w (L.set i (rowA E m ⟨some ⟨b, 0, none⟩, n, n⟩ cs.toList) ++ F) :=
  Holds.unfocusF hi ((H.focusF i hi).toRow h)
theorem Holds.nilRowAt (H : Holds c g w (L ++ F)) : Holds c g w ((L ++ [rowA E m Sl.nil []]) ++ F) := by
  have : Holds c g w (rowA E m Sl.nil [] :: (L ++ F)) := Holds.row_nil H
  refine this.perm ?_
  simp only [List.append_assoc, List.singleton_append]
  exact List.perm_middle.symm
end

/-! sealed slices, read -/
def Sl.at (s : Sl) (m i : Nat) : Addr := match s.a with
  | some a => ⟨a.block, a.off + i * m, none⟩
  | none => ⟨0, i * m, none⟩

/-- A sealed slice: its elements, m cells each, are the encodings of xs. -/
structure SlR {α : Type} (g : Heap) (enc : α → Value) (m : Nat) (s : Sl) (xs : List α) : Prop where
  len : s.len = xs.length
  cap : s.len ≤ s.cap
  spot : ∀ a, s.a = some a → 0 < xs.length → a.spot = none
  nil : s.a = none → s.cap = 0
  at_ : ∀ i x, xs[i]? = some x → ∃ a cs E z, s.a = some a ∧ g a.block = some (.cells cs E z) ∧ Nat.ble (a.off + i * m + m) cs.size = true ∧ cs.extract (a.off + i * m) (a.off + i * m + m) = (enc x).cells

theorem SlR.mono {α : Type} {g g' : Heap} {enc : α → Value} {m : Nat} {s : Sl} {xs : List α} (h : SlR g enc m s xs) (hle : Le g g') : SlR g' enc m s xs :=
  ⟨h.len, h.cap, h.spot, h.nil, fun i x hi => let ⟨a, cs, E, z, h1, h2, h3, h4⟩ := h.at_ i x hi; ⟨a, cs, E, z, h1, hle _ _ h2, h3, h4⟩⟩
theorem SlR.zero {α : Type} {g : Heap} {enc : α → Value} {m : Nat} : SlR g enc m Sl.nil ([] : List α) := ⟨rfl, Nat.le_refl _, fun _ h _ => by simp [Sl.nil] at h, fun _ => rfl, fun i x h => by simp at h⟩

theorem flat_ext {α : Type} {enc : α → Value} {m : Nat} : ∀ {xs : List α} {i : Nat} {x : α} {pre : List Value}, (∀ y ∈ xs, (enc y).cells.size = m) → xs[i]? = some x →
    (pre ++ xs.flatMap fun y => (enc y).cells.toList).toArray.extract (pre.length + i * m) (pre.length + i * m + m) = (enc x).cells
  | [], i, x, pre, _, h => by simp at h
  | y :: r, 0, x, pre, hm, h => by
    simp at h; subst h
    have := hm y (by simp)
    apply Array.ext'
    simp [List.take_append, this]
    try rw [show pre.length + m - pre.length = m by omega, List.take_of_length_le (by simp [this]), List.take_of_length_le (by omega), List.drop_append]
    try simp
  | y :: r, i + 1, x, pre, hm, h => by
    have h1 := hm y (by simp)
    have ih := flat_ext (enc := enc) (m := m) (xs := r) (i := i) (x := x) (pre := pre ++ (enc y).cells.toList) (fun z hz => hm z (by simp [hz])) (by simpa using h)
    rw [← ih]
    simp only [List.flatMap_cons, List.append_assoc, List.length_append, Array.length_toList, h1]
    congr 1
    · rw [Nat.add_mul]; omega
    · rw [Nat.add_mul]; omega

theorem flat_len {α : Type} {enc : α → Value} {m : Nat} {xs : List α} (hm : ∀ y ∈ xs, (enc y).cells.size = m) : (xs.flatMap fun y => (enc y).cells.toList).length = xs.length * m := by
  induction xs with
  | nil => simp
  | cons y r ih => rw [List.flatMap_cons, List.length_append, ih fun z hz => hm z (by simp [hz]), Array.length_toList, hm y (by simp), List.length_cons, Nat.add_mul]; omega

section
variable {α : Type} {c : Cx} {g : Heap} {w : World} {L F : List Asn} {enc : α → Value} {m : Nat} {s : Sl} {xs : List α}

theorem Holds.re {g' : Heap} {w' : World} {L' : List Asn} (_ : Holds c g w (L ++ F)) (H : Holds c g' w' L') (h : L' = L ++ F) : Holds c g' w' (L ++ F) := h ▸ H
/-- A row that is sealed can be read ever after. -/
theorem Holds.forget {g' : Heap} (H : Holds c g' w L) (h : Le g g') : Holds c g w L :=
  ⟨H.os, H.tape, H.output, fun b o hb => H.sld b o (h b o hb), sat_mono H.sat fun b hb => by
    cases hg : g b with
    | none => rfl
    | some o => rw [h b o hg] at hb; cases hb⟩

theorem Holds.sealRow {E : TypeId} {vs : List Value} (H : Holds c g w (rowA E m s vs :: L)) (hv : vs = xs.flatMap fun y => (enc y).cells.toList) (hm : ∀ y ∈ xs, (enc y).cells.size = m) (hp : 0 < m) :
    ∃ g', Le g g' ∧ Holds c g' w L ∧ SlR g' enc m s xs := by
  have hl := flat_len hm
  subst hv
  rcases H.row_cases with ⟨rfl, h, H'⟩ | ⟨b, hb⟩
  · refine ⟨g, Le.refl g, H', ?_⟩
    rw [h] at hl
    have : xs = [] := by
      cases xs with
      | nil => rfl
      | cons y r =>
        have : (y :: r).length * m = r.length * m + m := by rw [List.length_cons, Nat.add_mul]; omega
        rw [this] at hl
        simp at hl
        omega
    subst this
    exact SlR.zero
  · obtain ⟨a, n, cp⟩ := s
    simp at hb; subst hb
    obtain ⟨junk, ⟨h1, h2, h3⟩, H'⟩ := Holds.row_some.1 H
    obtain ⟨H2, hle, hg⟩ := H'.doSeal
    have hn : n = xs.length := by
      rw [hl] at h1
      exact (Nat.eq_of_mul_eq_mul_right hp h1).symm
    refine ⟨_, hle, H2, ⟨hn, h3, fun a h _ => by cases h; rfl, fun h => by simp at h, fun i x hi => ⟨_, _, _, _, rfl, hg, ?_, ?_⟩⟩⟩
    · apply Nat.ble_eq_true_of_le
      have hi' : i < xs.length := (List.getElem?_eq_some_iff.1 hi).1
      have : (i + 1) * m ≤ xs.length * m := Nat.mul_le_mul_right _ hi'
      rw [Nat.add_mul] at this
      simp only [List.size_toArray, List.length_append, hl]
      omega
    · have := flat_ext (pre := []) hm hi
      simp only [List.nil_append, List.length_nil] at this
      have hi' : i < xs.length := (List.getElem?_eq_some_iff.1 hi).1
      have h5 : (i + 1) * m ≤ xs.length * m := Nat.mul_le_mul_right _ hi'
      rw [Nat.add_mul] at h5
      rw [← this]
      apply Array.ext'
      simp
      rw [List.drop_append_of_le_length (by rw [hl]; omega), List.take_append_of_le_length (by rw [List.length_drop, hl]; omega)]

/-- A literal's row, sealed. -/
theorem Holds.sealLit {b n : Nat} {E : TypeId} {cs : Array Value} (H : Holds c g w (pt b (.cells cs E) :: L)) (hn : xs.length = n) (hv : cs = (xs.flatMap fun y => (enc y).cells.toList).toArray) (hm : ∀ y ∈ xs, (enc y).cells.size = m) :
    ∃ g', Le g g' ∧ Holds c g' w L ∧ SlR g' enc m ⟨some ⟨b, 0, none⟩, n, n⟩ xs := by
  have hl := flat_len hm
  subst hv
  subst hn
  obtain ⟨H2, hle, hg⟩ := H.doSeal
  refine ⟨_, hle, H2, ⟨rfl, Nat.le_refl _, fun a h _ => by cases h; rfl, fun h => by simp at h, fun i x hi => ⟨_, _, _, _, rfl, hg, ?_, ?_⟩⟩⟩
  · apply Nat.ble_eq_true_of_le
    have hi' : i < xs.length := (List.getElem?_eq_some_iff.1 hi).1
    have : (i + 1) * m ≤ xs.length * m := Nat.mul_le_mul_right _ hi'
    rw [Nat.add_mul] at this
    simp only [List.size_toArray, hl]
    omega
  · have := flat_ext (pre := []) hm hi
    simpa using this

variable {P : Program} {ρ : Operand → Value} {d : Option Nat} {ty : TypeId} {pos : String} {af : Array Edge} {gd : Option (Nat × Bool)}

theorem SlR.isSome (hs : SlR g enc m s xs) {i : Nat} (hi : i < xs.length) : ∃ b off, s.a = some ⟨b, off, none⟩ := by
  obtain ⟨a, cs, E, z, h1, _⟩ := hs.at_ i xs[i] (List.getElem?_eq_getElem hi)
  have := hs.spot a h1 (by omega)
  obtain ⟨b, o, sp⟩ := a
  simp at this; subst this
  exact ⟨b, o, h1⟩

theorem x_indexEl {T e : TypeId} {x y : Operand} {i : Int} {k : IntKind} (hs : SlR g enc m s xs) (hT : P.underlying T = some (.slice e)) (hm : Sz P e m) (hx : ρ x = s.v) (hy : ρ y = .int k i) (h0 : 0 ≤ i) (h1 : i < xs.length) :
    (execOp ρ ⟨d, .indexAddr T x y, ty, pos, af, gd⟩).run P w = .ok (.value (.pointer (some (s.at m i.toNat)))) w := by
  obtain ⟨b, off, ha⟩ := hs.isSome (i := i.toNat) (by omega)
  have hx' : ρ x = .slice (some ⟨b, off, none⟩) s.len s.cap := by rw [hx, Sl.v, ha]
  have := x_indexSl (d := d) (ty := ty) (pos := pos) (af := af) (gd := gd) (w := w) hT hm hx' hy h0 (by rw [hs.len]; exact h1)
  rw [this]
  simp [Sl.at, ha]

/-- How elements lie in cells. -/
structure ElLaw (P : Program) (T : TypeId) (enc : α → Value) (m : Nat) : Prop where
  sz : Sz P T m
  ag : (Ag P T true ∧ ∀ x, ∃ cs, enc x = .agg cs) ∨ (Ag P T false ∧ m = 1 ∧ ∀ x, oneCell (enc x) = true)
  cell : ∀ x, (enc x).cells.size = m
  one : ∀ x, (enc x).cells.toList.all oneCell = true

theorem x_loadEl {T : TypeId} {X : Operand} {i : Nat} {x : α} (he : ElLaw P T enc m) (hs : SlR g enc m s xs) (H : Holds c g w L) (hx : ρ X = .pointer (some (s.at m i))) (hi : xs[i]? = some x) :
    (execOp ρ ⟨d, .load T X, ty, pos, af, gd⟩).run P w = .ok (.value (enc x)) w := by
  obtain ⟨a, cs, E, z, h1, h2, h3, h4⟩ := hs.at_ i x hi
  have hsp := hs.spot a h1 (by have := (List.getElem?_eq_some_iff.1 hi).1; omega)
  have hx' : ρ X = .pointer (some ⟨a.block, a.off + i * m, none⟩) := by rw [hx, Sl.at, h1]
  have hb := H.sld _ _ h2
  rcases he.ag with ⟨hA, hv⟩ | ⟨hA, rfl, hv⟩
  · obtain ⟨vs, hv⟩ := hv x
    rw [hv] at h4
    rw [x_load1 hA he.sz hx' hb h3, h4, hv]
    rfl
  · have hone := hv x
    have h5 : (enc x).cells = #[enc x] := by
      cases he : enc x <;> rw [he] at hone <;> simp [oneCell] at hone <;> rfl
    rw [h5] at h4
    refine x_load0b hA hx' hb ?_
    have := congrArg (fun a : Array Value => a[0]?) h4
    rw [Array.getElem?_extract] at this
    simp at this
    simpa using this.2
end

/-! more arithmetic, and arrays -/
section
variable {P : Program} {ρ : Operand → Value} {d : Option Nat} {ty : TypeId} {pos : String} {af : Array Edge} {gd : Option (Nat × Bool)} {w : World}
theorem x_and {T T' : TypeId} {x y : Operand} {k : IntKind} {a b : Int} (r : Int) (hx : ρ x = .int k a) (hy : ρ y = .int k b) (h : k.wrap (BitVec.ofInt k.bits a &&& BitVec.ofInt k.bits b).toNat = r) :
    (execOp ρ ⟨d, .binOp .and T x y T', ty, pos, af, gd⟩).run P w = .ok (.value (.int k r)) w := by
  simp [execOp, hx, hy, go_sem, eqGuard, binOp, Op.intBits]
  exact h
theorem x_or {T T' : TypeId} {x y : Operand} {k : IntKind} {a b : Int} (r : Int) (hx : ρ x = .int k a) (hy : ρ y = .int k b) (h : k.wrap (BitVec.ofInt k.bits a ||| BitVec.ofInt k.bits b).toNat = r) :
    (execOp ρ ⟨d, .binOp .or T x y T', ty, pos, af, gd⟩).run P w = .ok (.value (.int k r)) w := by
  simp [execOp, hx, hy, go_sem, eqGuard, binOp, Op.intBits]
  exact h
theorem x_shr {T T' : TypeId} {x y : Operand} {k k' : IntKind} {a b : Int} (r : Int) (hx : ρ x = .int k a) (hy : ρ y = .int k' b) (h0 : 0 ≤ b) (h : a.fdiv (2 ^ min b.toNat k.bits) = r) :
    (execOp ρ ⟨d, .binOp .shr T x y T', ty, pos, af, gd⟩).run P w = .ok (.value (.int k r)) w := by
  have : ¬ b < 0 := by omega
  simp [execOp, hx, hy, go_sem, eqGuard, binOp, Op.shift, this]
  exact h
theorem x_shl {T T' : TypeId} {x y : Operand} {k k' : IntKind} {a b : Int} (r : Int) (hx : ρ x = .int k a) (hy : ρ y = .int k' b) (h0 : 0 ≤ b) (h : k.wrap (a * 2 ^ min b.toNat k.bits) = r) :
    (execOp ρ ⟨d, .binOp .shl T x y T', ty, pos, af, gd⟩).run P w = .ok (.value (.int k r)) w := by
  have : ¬ b < 0 := by omega
  simp [execOp, hx, hy, go_sem, eqGuard, binOp, Op.shift, this]
  exact h
theorem x_quo {T T' : TypeId} {x y : Operand} {k : IntKind} {a b : Int} (r : Int) (hx : ρ x = .int k a) (hy : ρ y = .int k b) (h0 : b ≠ 0) (h : k.wrap (a.tdiv b) = r) :
    (execOp ρ ⟨d, .binOp .quo T x y T', ty, pos, af, gd⟩).run P w = .ok (.value (.int k r)) w := by
  simp [execOp, hx, hy, go_sem, eqGuard, binOp, Op.intDiv, h, h0]
theorem x_rem {T T' : TypeId} {x y : Operand} {k : IntKind} {a b : Int} (r : Int) (hx : ρ x = .int k a) (hy : ρ y = .int k b) (h0 : b ≠ 0) (h : a.tmod b = r) :
    (execOp ρ ⟨d, .binOp .rem T x y T', ty, pos, af, gd⟩).run P w = .ok (.value (.int k r)) w := by
  simp [execOp, hx, hy, go_sem, eqGuard, binOp, Op.intDiv, h, h0]
/-- An addition whose sum is given. -/
theorem x_arithV {op : BinOp} {T T' : TypeId} {x y : Operand} {k : IntKind} {a b : Int} (r : Int) (hx : ρ x = .int k a) (hy : ρ y = .int k b)
    (h : match op with | .add => k.wrap (a + b) = r | .sub => k.wrap (a - b) = r | .mul => k.wrap (a * b) = r | _ => False) :
    (execOp ρ ⟨d, .binOp op T x y T', ty, pos, af, gd⟩).run P w = .ok (.value (.int k r)) w := by
  cases op <;> simp at h <;> refine x_arith hx hy (fun _ => ?_) rfl <;> rw [← h] <;> rfl
theorem and_mask {a : Int} {m : Nat} (hm : m < 63) : IntKind.i64.wrap (BitVec.ofInt 64 a &&& BitVec.ofInt 64 (2 ^ m - 1)).toNat = a % 2 ^ m := by
  have h1 : (BitVec.ofInt 64 (2 ^ m - 1)).toNat = 2 ^ m - 1 := by
    have : (2 : Int) ^ m - 1 = ((2 ^ m - 1 : Nat) : Int) := by
      have : 1 ≤ 2 ^ m := Nat.one_le_two_pow
      push_cast [this]; rfl
    rw [this, BitVec.ofInt_natCast, BitVec.toNat_ofNat]
    refine Nat.mod_eq_of_lt ?_
    have : 2 ^ m < 2 ^ 63 := Nat.pow_lt_pow_right (by omega) hm
    omega
  have h2 : (BitVec.ofInt 64 a).toNat = (a % 2 ^ 64).toNat := by rw [BitVec.toNat_ofInt]; rfl
  rw [BitVec.toNat_and, h1, h2, Nat.and_two_pow_sub_one_eq_mod]
  have h3 : (((a % 2 ^ 64).toNat % 2 ^ m : Nat) : Int) = a % 2 ^ m := by
    rw [Int.natCast_emod, Int.toNat_of_nonneg (Int.emod_nonneg _ (by decide))]
    push_cast
    rw [Int.emod_emod_of_dvd]
    exact ⟨2 ^ (64 - m), by rw [← Int.pow_add, show m + (64 - m) = 64 by omega]; rfl⟩
  rw [h3]
  have h4 : 0 ≤ a % 2 ^ m := Int.emod_nonneg _ (by have : (2 : Int) ^ m > 0 := Int.pow_pos (by decide); omega)
  have h5 : a % 2 ^ m < 2 ^ m := Int.emod_lt_of_pos _ (Int.pow_pos (by decide))
  have h6 : (2 : Int) ^ m < 2 ^ 63 := by
    have : 2 ^ m < 2 ^ 63 := Nat.pow_lt_pow_right (by omega) hm
    exact_mod_cast this
  simp [IntKind.wrap, IntKind.signed, IntKind.bits]
  omega
theorem or_low {r b : Int} {m : Nat} (hr : 0 ≤ r) (hb : 0 ≤ b) (hb2 : b < 2 ^ m) (hs : r * 2 ^ m + b < 9223372036854775808) : IntKind.i64.wrap (BitVec.ofInt 64 (r * 2 ^ m) ||| BitVec.ofInt 64 b).toNat = r * 2 ^ m + b := by
  obtain ⟨r, rfl⟩ := Int.eq_ofNat_of_zero_le hr
  obtain ⟨b, rfl⟩ := Int.eq_ofNat_of_zero_le hb
  have hb3 : b < 2 ^ m := by exact_mod_cast hb2
  have hs2 : r * 2 ^ m + b < 9223372036854775808 := by
    have : (((r * 2 ^ m + b : Nat)) : Int) < 9223372036854775808 := by rw [Int.natCast_add, Int.natCast_mul, Int.natCast_pow]; exact hs
    omega
  have e1 : (r : Int) * 2 ^ m = ((r * 2 ^ m : Nat) : Int) := by push_cast; rfl
  rw [e1, BitVec.ofInt_natCast, BitVec.ofInt_natCast, BitVec.toNat_or, BitVec.toNat_ofNat, BitVec.toNat_ofNat, Nat.mod_eq_of_lt (by omega), Nat.mod_eq_of_lt (by omega)]
  have : r * 2 ^ m ||| b = r * 2 ^ m + b := by
    rw [Nat.mul_comm, Nat.two_pow_add_eq_or_of_lt hb3]
  rw [this]
  simp [IntKind.wrap, IntKind.signed, IntKind.bits]
  omega

/-- An array's element, by its address. -/
theorem x_indexArr {T e : TypeId} {x y : Operand} {b off m N : Nat} {i : Int} {k : IntKind} (hT : P.underlying T = some (.array N e)) (hm : Sz P e m) (hx : ρ x = .pointer (some ⟨b, off, none⟩)) (hy : ρ y = .int k i) (h0 : 0 ≤ i) (h1 : i < N) :
    (execOp ρ ⟨d, .indexAddr T x y, ty, pos, af, gd⟩).run P w = .ok (.value (.pointer (some ⟨b, off + i.toNat * m, none⟩))) w := by
  simp [execOp, Instr.indexAt, Instr.sureAddr, hx, hy, asIntOf, go_sem, underlying, hT, hm w, h0, h1, add_off]
/-- .. of a whole array in a temporary. -/
theorem x_indexAgg0 {T e : TypeId} {x y : Operand} {m N : Nat} {cs : Array Value} {i : Int} {k : IntKind} {v : Value} (hT : P.underlying T = some (.array N e)) (hm : Sz P e m) (hA : Ag P e false) (hx : ρ x = .agg cs) (hy : ρ y = .int k i) (h0 : 0 ≤ i) (h1 : i < N) (hv : cs[i.toNat * m]? = some v) :
    (execOp ρ ⟨d, .index T x y, ty, pos, af, gd⟩).run P w = .ok (.value v) w := by
  simp [execOp, Instr.index, hx, hy, asIntOf, go_sem, underlying, hT, hm w, h0, h1, part, hA w, hv]
/-- A whole array, or struct, put together of parts in their order, one cell each. -/
theorem x_buildArr {T e : TypeId} {N : Nat} {parts : Array (Nat × Operand)} {z : Value} {vs : List Value} (hT : P.underlying T = some (.array N e)) (hm : Sz P e 1) (hz : Zr P T z) (hzs : z.cells.size = N) (hp : parts.toList.map (·.1) = List.range N) (hv : parts.toList.map (fun p => ρ p.2) = vs) (hs : vs.all (fun v => v.cells.size == 1) = true) :
    (execOp ρ ⟨d, .build T parts, ty, pos, af, gd⟩).run P w = .ok (.value (.agg (vs.flatMap fun v => v.cells.toList).toArray)) w := by
  have hz' := hz w
  have hm' := hm w
  have hlen : vs.length = N := by rw [← hv, List.length_map, ← List.length_map (f := (·.1)), hp, List.length_range]
  have hsz : ∀ v ∈ vs, v.cells.size = 1 := by
    intro v h
    have := List.all_eq_true.1 hs v h
    simpa using this
  have h1 : (parts.map fun (p : Nat × Operand) => (p.1, ρ p.2)).toList = (List.range' 0 vs.length).zip vs := by
    rw [Array.toList_map, hlen, ← List.range_eq_range', ← hp, ← hv, List.zip_map']
  have hfl : (vs.flatMap fun v => v.cells.toList).length = N := by
    rw [← hlen]
    clear hv h1 hlen hs
    induction vs with
    | nil => simp
    | cons v r ih => rw [List.flatMap_cons, List.length_append, ih (fun v h => hsz v (by simp [h])), Array.length_toList, hsz v (by simp), List.length_cons]; omega
  have h2 : Instr.fill (fun i => some (i, 1)) z.cells (parts.map fun (p : Nat × Operand) => (p.1, ρ p.2)).toList = some (vs.flatMap fun v => v.cells.toList).toArray := by
    have := fill_row 1 vs 0 z.cells (by rw [hlen, hzs]; omega) hsz
    simp only [Nat.mul_one] at this
    rw [h1, this, setMany_all _ _ _ (by rw [hfl, hzs]; simp)]
    simp
  unfold Value.cells at h2
  simp [execOp, Instr.build, go_sem, underlying, hT, hm', hz'] at h2 ⊢
  simp [h2, go_sem]
end
end Go.Tw
