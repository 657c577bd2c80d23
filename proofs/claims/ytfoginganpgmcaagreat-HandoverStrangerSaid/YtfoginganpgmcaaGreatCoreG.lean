/- Fields of a row's elements. Nothing here speaks of a program. -/
import Derived.Test.YtfoginganpgmcaaGreatCoreR
set_option linter.unusedSimpArgs false
set_option linter.unusedVariables false
namespace Go.Tw
open Go
section
variable {α : Type} {enc : α → Value} {m : Nat} {s : Sl} {xs : List α} {E : TypeId}
variable {P : Program} {ρ : Operand → Value} {f : Fr} {d : Option Nat} {ty : TypeId} {pos : String} {af : Array Edge} {gd : Option (Nat × Bool)} {w : World} {R : Value → World → Prop} {c : Cx} {g : Heap} {L F : List Asn}

theorem sub_get {cs ce : Array Value} {A o : Nat} {v : Value} (h : cs.extract A (A + m) = ce) (ho : o < m) (hv : ce[o]? = some v) : cs[A + o]? = some v := by
  rw [← h, Array.getElem?_extract] at hv
  split at hv
  · exact hv
  · cases hv
theorem sub_extract {cs ce : Array Value} {A o n : Nat} (h : cs.extract A (A + m) = ce) (ho : o + n ≤ m) : cs.extract (A + o) (A + o + n) = ce.extract o (o + n) := by
  rw [← h, Array.extract_extract]
  congr 1 <;> omega

/-- A field of an element of a sealed slice. -/
theorem x_loadElF {T : TypeId} {X : Operand} {i o : Nat} {x : α} {v : Value} (hA : Ag P T false) (hs : SlR g enc m s xs) (H : Holds c g w L) (hx : ρ X = .pointer (some ((s.at m i).add o))) (hi : xs[i]? = some x) (ho : Nat.blt o m = true) (hv : (enc x).cells[o]? = some v) :
    (execOp ρ ⟨d, .load T X, ty, pos, af, gd⟩).run P w = .ok (.value v) w := by
  obtain ⟨a, cs, E, z, h1, h2, h3, h4⟩ := hs.at_ i x hi
  have hx' : ρ X = .pointer (some ⟨a.block, a.off + i * m + o, none⟩) := by rw [hx, Sl.at, h1, add_off]
  exact x_load0b hA hx' (H.sld _ _ h2) (sub_get h4 (by simpa using ho) hv)
theorem x_loadElG {T : TypeId} {X : Operand} {i o n : Nat} {x : α} (v : Value) (hA : Ag P T true) (hn : Sz P T n) (hs : SlR g enc m s xs) (H : Holds c g w L) (hx : ρ X = .pointer (some ((s.at m i).add o))) (hi : xs[i]? = some x) (ho : Nat.ble (o + n) m = true) (hv : .agg ((enc x).cells.extract o (o + n)) = v) :
    (execOp ρ ⟨d, .load T X, ty, pos, af, gd⟩).run P w = .ok (.value v) w := by
  obtain ⟨a, cs, E, z, h1, h2, h3, h4⟩ := hs.at_ i x hi
  have hx' : ρ X = .pointer (some ⟨a.block, a.off + i * m + o, none⟩) := by rw [hx, Sl.at, h1, add_off]
  have ho := Nat.le_of_ble_eq_true ho
  have h3 := Nat.le_of_ble_eq_true h3
  exact x_load1V v hA hn hx' (H.sld _ _ h2) (Nat.ble_eq_true_of_le (by omega)) (by rw [sub_extract h4 ho]; exact hv)

theorem flat_at {junk : List Value} {k : Nat} {x : α} (hm : ∀ y, (enc y).cells.size = m) (hk : xs[k]? = some x) : (flat enc xs ++ junk).toArray.extract (0 + k * m) (0 + k * m + m) = (enc x).cells ∧ k * m + m ≤ (flat enc xs ++ junk).toArray.size := by
  have hkl : k < xs.length := (List.getElem?_eq_some_iff.1 hk).1
  have hlen : (flat enc xs).length = xs.length * m := flat_len (fun y _ => hm y)
  have h5 : (k + 1) * m ≤ xs.length * m := Nat.mul_le_mul_right _ hkl
  rw [Nat.add_mul] at h5
  constructor
  · have := flat_ext (pre := []) (fun y _ => hm y) hk
    simp only [List.nil_append, List.length_nil] at this
    rw [← this]
    apply Array.ext'
    simp
    rw [List.drop_append_of_le_length (by rw [hlen]; omega), List.take_append_of_le_length (by rw [List.length_drop, hlen]; omega)]
    rfl
  · simp [hlen]; omega
/-- A field of an element of a row. -/
theorem x_loadRowF {T : TypeId} {X : Operand} {k o : Nat} {x : α} {v : Value} {b n cp : Nat} (H : Holds c g w (L ++ F)) (i : Nat) (hi : L[i]? = some (rowE E enc m ⟨some ⟨b, 0, none⟩, n, cp⟩ xs)) (hm : ∀ y, (enc y).cells.size = m) (hA : Ag P T false) (hx : ρ X = .pointer (some ⟨b, 0 + k * m + o, none⟩)) (hk : xs[k]? = some x) (ho : Nat.blt o m = true) (hv : (enc x).cells[o]? = some v) :
    (execOp ρ ⟨d, .load T X, ty, pos, af, gd⟩).run P w = .ok (.value v) w := by
  obtain ⟨junk, _, H'⟩ := Holds.rowE_some.1 (H.focusF i hi)
  exact x_load0b hA hx H'.head (sub_get (flat_at hm hk).1 (by simpa using ho) hv)
theorem x_loadRowG {T : TypeId} {X : Operand} {k o n' : Nat} {x : α} (v : Value) {b n cp : Nat} (H : Holds c g w (L ++ F)) (i : Nat) (hi : L[i]? = some (rowE E enc m ⟨some ⟨b, 0, none⟩, n, cp⟩ xs)) (hm : ∀ y, (enc y).cells.size = m) (hA : Ag P T true) (hn : Sz P T n') (hx : ρ X = .pointer (some ⟨b, 0 + k * m + o, none⟩)) (hk : xs[k]? = some x) (ho : Nat.ble (o + n') m = true) (hv : .agg ((enc x).cells.extract o (o + n')) = v) :
    (execOp ρ ⟨d, .load T X, ty, pos, af, gd⟩).run P w = .ok (.value v) w := by
  obtain ⟨junk, _, H'⟩ := Holds.rowE_some.1 (H.focusF i hi)
  have h := flat_at (junk := junk) hm hk
  have ho := Nat.le_of_ble_eq_true ho
  exact x_load1V v hA hn hx H'.head (Nat.ble_eq_true_of_le (by omega)) (by rw [sub_extract h.1 ho]; exact hv)

theorem setMany_get (l : List Value) : ∀ (cs : Array Value) (off j : Nat), off + l.length ≤ cs.size → (setMany cs off l)[j]? = if off ≤ j ∧ j < off + l.length then l[j - off]? else cs[j]? := by
  induction l with
  | nil => intro cs off j _; simp [setMany]; omega
  | cons v r ih =>
    intro cs off j h
    simp only [List.length_cons] at h
    simp only [setMany]
    rw [ih _ _ _ (by simp; omega)]
    by_cases h1 : off + 1 ≤ j ∧ j < off + 1 + r.length
    · rw [if_pos h1, if_pos (by simp; omega)]
      rw [show j - off = (j - (off + 1)) + 1 by omega, List.getElem?_cons_succ]
    · rw [if_neg h1]
      by_cases h2 : j = off
      · subst h2
        rw [if_pos (by simp)]
        simp [show j < cs.size by omega]
      · rw [if_neg (by simp; omega), Array.getElem?_setIfInBounds_ne (Ne.symm h2)]
/-- A store into a field of an element. -/
theorem e_storeRowF {T : TypeId} {X Y : Operand} {k o n' : Nat} {x : α} {v : Value} {b n cp : Nat} (H : Holds c g w (L ++ F)) (i : Nat) (hi : L[i]? = some (rowE E enc m ⟨some ⟨b, 0, none⟩, n, cp⟩ xs)) (hm : ∀ y, (enc y).cells.size = m) (y : α) (hn : Sz P T n') (hx : ev f X = .pointer (some ⟨b, 0 + k * m + o, none⟩)) (hy : ev f Y = v) (hk : xs[k]? = some x)
    (h1 : v.cells.size = n') (ho : Nat.ble (o + n') m = true) (hone : v.cells.toList.all oneCell = true) (hset : setMany (enc x).cells o v.cells.toList = (enc y).cells)
    (kk : ∀ w', Holds c g w' (L.set i (rowE E enc m ⟨some ⟨b, 0, none⟩, n, cp⟩ (xs.set k y)) ++ F) → R undef w') : EffAt P ⟨d, .store T X Y, ty, pos, af, gd⟩ f w R := by
  obtain ⟨junk, ⟨h2, h3, h4⟩, H'⟩ := Holds.rowE_some.1 (H.focusF i hi)
  have hfl := flat_at (junk := junk) hm hk
  have ho := Nat.le_of_ble_eq_true ho
  have hkl : k < xs.length := (List.getElem?_eq_some_iff.1 hk).1
  have hlen : (flat enc xs).length = xs.length * m := flat_len (fun y _ => hm y)
  refine e_store (L := [_]) (F := L.eraseIdx i ++ F) H' 0 rfl hn hx hy h1 (Nat.ble_eq_true_of_le (by omega)) hone fun w' H2 => kk w' ?_
  have hvl : v.cells.toList.length = n' := by simpa using h1
  have hxm := hm x
  have hkey : setMany (flat enc xs ++ junk).toArray (0 + k * m + o) v.cells.toList = setMany (flat enc xs ++ junk).toArray (0 + k * m) (enc y).cells.toList := by
    apply Array.ext_getElem?
    intro j
    have hym : (enc y).cells.toList.length = m := by simpa using hm y
    rw [setMany_get _ _ _ _ (by omega), setMany_get _ _ _ _ (by omega)]
    by_cases hj : 0 + k * m ≤ j ∧ j < 0 + k * m + (enc y).cells.toList.length
    · rw [if_pos hj]
      have e1 : (enc y).cells.toList[j - (0 + k * m)]? = (setMany (enc x).cells o v.cells.toList)[j - (0 + k * m)]? := by rw [hset]; simp
      rw [e1, setMany_get _ _ _ _ (by omega)]
      by_cases h5 : 0 + k * m + o ≤ j ∧ j < 0 + k * m + o + v.cells.toList.length
      · rw [if_pos h5, if_pos (by omega)]
        congr 1; omega
      · rw [if_neg h5, if_neg (by omega)]
        have e2 : (enc x).cells[j - (0 + k * m)]? = ((flat enc xs ++ junk).toArray.extract (0 + k * m) (0 + k * m + m))[j - (0 + k * m)]? := by rw [hfl.1]
        rw [e2, Array.getElem?_extract, if_pos (by omega)]
        congr 1; omega
    · rw [if_neg hj, if_neg (by omega)]
  rw [hkey, flat_set hm hkl] at H2
  refine Holds.unfocusF hi (Holds.rowE_some.2 ⟨junk, ⟨?_, ?_, h4⟩, H2⟩)
  · rw [show (flat enc (xs.set k y)).length = (xs.set k y).length * m from flat_len (fun y _ => hm y), List.length_set, ← hlen, h2]
  · rw [show (flat enc (xs.set k y)).length = (xs.set k y).length * m from flat_len (fun y _ => hm y), List.length_set, ← hlen, h3]
/-- A row's shape. -/
theorem Holds.rowShape (H : Holds c g w (L ++ F)) (i : Nat) (hi : L[i]? = some (rowE E enc m s xs)) (hm : ∀ y, (enc y).cells.size = m) (hp : Nat.blt 0 m = true) : s.len = xs.length ∧ (s = Sl.nil ∧ xs = [] ∨ ∃ b n cp, s = ⟨some ⟨b, 0, none⟩, n, cp⟩ ∧ n ≤ cp) := by
  have hp : 0 < m := by simpa using hp
  have hlen : (flat enc xs).length = xs.length * m := flat_len (fun y _ => hm y)
  rcases Holds.row_cases (H.focusF i hi) with ⟨h1, h2, _⟩ | ⟨b, hb⟩
  · have : xs = [] := by
      have h0 : xs.length * m = 0 := by rw [← hlen, h2]; rfl
      rcases Nat.mul_eq_zero.1 h0 with h | h
      · exact List.length_eq_zero_iff.1 h
      · omega
    exact ⟨by rw [h1, this]; rfl, .inl ⟨h1, this⟩⟩
  · obtain ⟨a, n, cp⟩ := s
    simp only at hb
    subst hb
    obtain ⟨junk, ⟨h1, h2, h3⟩, _⟩ := Holds.rowE_some.1 (H.focusF i hi)
    refine ⟨?_, .inr ⟨b, n, cp, rfl, h3⟩⟩
    rw [hlen] at h1
    exact (Nat.eq_of_mul_eq_mul_right hp h1).symm
theorem Holds.rowSome (H : Holds c g w (L ++ F)) (i : Nat) (hi : L[i]? = some (rowE E enc m s xs)) (hm : ∀ y, (enc y).cells.size = m) (hp : Nat.blt 0 m = true) (hx : xs ≠ []) : ∃ b cp, s = ⟨some ⟨b, 0, none⟩, xs.length, cp⟩ ∧ xs.length ≤ cp := by
  obtain ⟨h1, ⟨_, h⟩ | ⟨b, n, cp, h, h3⟩⟩ := H.rowShape i hi hm hp
  · exact absurd h hx
  · rw [h] at h1
    simp only at h1
    subst h1
    exact ⟨b, cp, h, h3⟩
theorem x_sliceFrom {T e : TypeId} {x l : Operand} {b n cp mm : Nat} {i : Int} {k : IntKind} (hT : P.underlying T = some (.slice e)) (hm : Sz P e mm) (hx : ρ x = .slice (some ⟨b, 0, none⟩) n cp) (hl : ρ l = .int k i) (h0 : 0 ≤ i) (h1 : i ≤ n) (h2 : n ≤ cp) :
    (execOp ρ ⟨d, .slice T x (some l) none none, ty, pos, af, gd⟩).run P w = .ok (.value (.slice (some ⟨b, if cp = i.toNat then 0 else i.toNat * mm, none⟩) (n - i.toNat) (cp - i.toNat))) w := by
  have h3 : i.toNat ≤ n := by omega
  by_cases hc : cp = i.toNat <;> simp [hc, execOp, go_sem, Instr.slice, Instr.sliceBounds, Instr.sliceBound, hx, hl, underlying, hT, hm w, asIntOf, h0, h1, h2, h3, add_off]
theorem x_sliceFromNil {T e : TypeId} {x l : Operand} {mm : Nat} {k : IntKind} (hT : P.underlying T = some (.slice e)) (hm : Sz P e mm) (hx : ρ x = .slice none 0 0) (hl : ρ l = .int k 0) :
    (execOp ρ ⟨d, .slice T x (some l) none none, ty, pos, af, gd⟩).run P w = .ok (.value (.slice none 0 0)) w := by
  simp [execOp, go_sem, Instr.slice, Instr.sliceBounds, Instr.sliceBound, hx, hl, underlying, hT, hm w, asIntOf, add_off]
theorem x_sliceToNil {T e : TypeId} {x l : Operand} {mm : Nat} {k : IntKind} (hT : P.underlying T = some (.slice e)) (hm : Sz P e mm) (hx : ρ x = .slice none 0 0) (hl : ρ l = .int k 0) :
    (execOp ρ ⟨d, .slice T x none (some l) none, ty, pos, af, gd⟩).run P w = .ok (.value (.slice none 0 0)) w := by
  simp [execOp, go_sem, Instr.slice, Instr.sliceBounds, Instr.sliceBound, hx, hl, underlying, hT, hm w, asIntOf, add_off]
theorem e_appendNone {T : TypeId} {x y : Operand} {mm : Nat} (hm : Sz P E mm) (hc : s.len ≤ s.cap) (hT : P.underlying T = some (.slice E)) (hx : ev f x = s.v) (hy : ev f y = .slice none 0 0) (h : R s.v w) : EffAt P ⟨d, .call ⟨.builtin .append, #[x, y], #[T, T]⟩, ty, pos, af, gd⟩ f w R := by
  refine e_val (v := s.v) (w' := w) ?_ h
  show (do let v ← Builtin.append_ #[T, T] ty (#[x, y].map (ev f)); pure (Next.value v) : Sem Next).run P w = _
  rw [show #[x, y].map (ev f) = #[ev f x, ev f y] by simp, hx, hy]
  obtain ⟨a, n, cp⟩ := s
  simp only at hc
  cases a <;> simp [Builtin.append_, Sl.v, go_sem, underlying, hT, hm w, hc]
theorem flat_drop (hm : ∀ y, (enc y).cells.size = m) : ∀ (i : Nat) (xs : List α), flat enc (xs.drop i) = (flat enc xs).drop (i * m)
  | 0, xs => by simp
  | i + 1, [] => by simp [flat]
  | i + 1, x :: r => by
    have h1 : (enc x).cells.toList.length = m := by simpa using hm x
    have h2 : flat enc (x :: r) = (enc x).cells.toList ++ flat enc r := by simp [flat]
    rw [List.drop_succ_cons, flat_drop hm i r, h2, List.drop_append, h1, Nat.add_mul, Nat.one_mul]
    rw [show ((enc x).cells.toList).drop (i * m + m) = [] from List.drop_of_length_le (by omega), List.nil_append, show i * m + m - m = i * m by omega]
theorem flat_take (hm : ∀ y, (enc y).cells.size = m) : ∀ (i : Nat) (xs : List α), flat enc (xs.take i) = (flat enc xs).take (i * m)
  | 0, xs => by simp [flat]
  | i + 1, [] => by simp [flat]
  | i + 1, x :: r => by
    have h1 : (enc x).cells.toList.length = m := by simpa using hm x
    have h2 : flat enc (x :: r) = (enc x).cells.toList ++ flat enc r := by simp [flat]
    have h3 : flat enc (x :: r.take i) = (enc x).cells.toList ++ flat enc (r.take i) := by simp [flat]
    rw [List.take_succ_cons, h3, flat_take hm i r, h2, List.take_append, h1, Nat.add_mul, Nat.one_mul]
    rw [show ((enc x).cells.toList).take (i * m + m) = (enc x).cells.toList from List.take_of_length_le (by omega), show i * m + m - m = i * m by omega]
theorem Holds.rowCells {b n cp : Nat} (H : Holds c g w (L ++ F)) (i : Nat) (hi : L[i]? = some (rowE E enc m ⟨some ⟨b, 0, none⟩, n, cp⟩ xs)) : ∀ q v, (flat enc xs)[q]? = some v → w.cell? ⟨b, q, none⟩ = some v := by
  obtain ⟨junk, _, H'⟩ := Holds.rowE_some.1 (H.focusF i hi)
  intro q v hq
  rw [cell_of H'.head]
  have : q < (flat enc xs).length := (List.getElem?_eq_some_iff.1 hq).1
  simp [List.getElem?_append_left this, hq]
/-- A row, shortened. -/
theorem Holds.rowTake {b n cp k : Nat} (H : Holds c g w (L ++ F)) (i : Nat) (hi : L[i]? = some (rowE E enc m ⟨some ⟨b, 0, none⟩, n, cp⟩ xs)) (hm : ∀ y, (enc y).cells.size = m) (hp : Nat.blt 0 m = true) (hk : k ≤ xs.length) : Holds c g w (L.set i (rowE E enc m ⟨some ⟨b, 0, none⟩, k, cp⟩ (xs.take k)) ++ F) := by
  obtain ⟨junk, ⟨h1, h2, h3⟩, H'⟩ := Holds.rowE_some.1 (H.focusF i hi)
  have hlen : (flat enc xs).length = xs.length * m := flat_len (fun y _ => hm y)
  have hlt : (flat enc (xs.take k)).length = (xs.take k).length * m := flat_len (fun y _ => hm y)
  have hkk : (xs.take k).length = k := by rw [List.length_take]; omega
  have hkm : k * m ≤ xs.length * m := Nat.mul_le_mul_right _ hk
  have hp : 0 < m := by simpa using hp
  have hn : xs.length = n := Nat.eq_of_mul_eq_mul_right hp (by rw [← hlen, h1])
  refine Holds.unfocusF hi (Holds.rowE_some.2 ⟨(flat enc xs).drop (k * m) ++ junk, ⟨by rw [hlt, hkk], ?_, by omega⟩, ?_⟩)
  · rw [hlt, hkk, List.length_append, List.length_drop]; omega
  · rw [flat_take hm, ← List.append_assoc, List.take_append_drop]
    exact H'
/-- A row appended to another one. -/
theorem e_appendRow {T by_ : Nat} {z : Value} {x y : Operand} {s2 : Sl} {ys : List α} (H : Holds c g w (L ++ F)) (i j : Nat) (hi : L[i]? = some (rowE E enc m s xs)) (hj : L[j]? = some (rowE E enc m s2 ys)) (hT : P.underlying T = some (.slice E)) (he : El P E m by_ z) (hl : ElLaw P E enc m)
    (hx : ev f x = s.v) (hy : ev f y = s2.v) (hb : (s.len + s2.len) * by_ ≤ 140737488355328) (hq : s.len + s2.len ≤ 9223372036854775807)
    (k : ∀ s' w', s'.len = s.len + s2.len → Holds c g w' (L.set i (rowE E enc m s' (xs ++ ys)) ++ F) → R s'.v w') :
    EffAt P ⟨d, .call ⟨.builtin .append, #[x, y], #[T, T]⟩, ty, pos, af, gd⟩ f w R := by
  have hp : Nat.blt 0 m = true := by simpa using he.pos
  obtain ⟨h1, ⟨h2, h3⟩ | ⟨b, n, cp, h2, h3⟩⟩ := H.rowShape j hj hl.cell hp
  · subst h2; subst h3
    have hcap : s.len ≤ s.cap := by
      obtain ⟨_, ⟨h4, _⟩ | ⟨b, n, cp, h4, h5⟩⟩ := H.rowShape i hi hl.cell hp
      · rw [h4]; exact Nat.le_refl _
      · rw [h4]; exact h5
    refine e_appendNone hl.sz hcap hT hx hy (k s w (by rfl) ?_)
    rw [List.append_nil]
    have : L.set i (rowE E enc m s xs) = L := by
      apply List.ext_getElem?
      intro q
      by_cases hqi : i = q
      · subst hqi
        rw [List.getElem?_set_self (List.getElem?_eq_some_iff.1 hi).1, hi]
      · rw [List.getElem?_set_ne hqi]
    rw [this]
    exact H
  · subst h2
    simp only at h1
    have hrow := H.rowCells j hj
    refine e_append H i hi hT he (a := ⟨b, 0, none⟩) (n := n) (cx := cp) (news := flat enc ys) hx hy (by rw [show (flat enc ys).length = ys.length * m from flat_len (fun y _ => hl.cell y), h1]) (fun q v hq => by rw [add_off]; have := hrow q v hq; simpa using this) ?_ hb hq fun s' w' h5 h6 H2 => k s' w' h5 ?_
    · rw [List.all_eq_true]
      intro v hv
      obtain ⟨y, hy, hv⟩ := List.mem_flatMap.1 hv
      exact List.all_eq_true.1 (hl.one y) v hv
    · have e : rowE E enc m s' (xs ++ ys) = rowA E m s' (flat enc xs ++ flat enc ys) := by unfold rowE; simp [flat]
      rw [e]; exact H2
/-- The end of a row appended to nothing. -/
theorem e_appendFrom {T by_ : Nat} {z : Value} {x y : Operand} {b n cp q : Nat} {ys : List α} (H : Holds c g w (L ++ F)) (i j : Nat) (hi : L[i]? = some (rowE E enc m Sl.nil [])) (hj : L[j]? = some (rowE E enc m ⟨some ⟨b, 0, none⟩, n, cp⟩ ys)) (hT : P.underlying T = some (.slice E)) (he : El P E m by_ z) (hl : ElLaw P E enc m)
    (hx : ev f x = Sl.nil.v) (hy : ev f y = .slice (some ⟨b, if cp = q then 0 else q * m, none⟩) (n - q) (cp - q)) (hq : q ≤ ys.length) (hb : ys.length * by_ ≤ 140737488355328) (hbl : ys.length ≤ 9223372036854775807)
    (k : ∀ s' w', s'.len = ys.length - q → Holds c g w' (L.set i (rowE E enc m s' (ys.drop q)) ++ F) → R s'.v w') :
    EffAt P ⟨d, .call ⟨.builtin .append, #[x, y], #[T, T]⟩, ty, pos, af, gd⟩ f w R := by
  have hp : Nat.blt 0 m = true := by simpa using he.pos
  obtain ⟨h1, ⟨h2, h3⟩ | ⟨b', n', cp', h2, h3⟩⟩ := H.rowShape j hj hl.cell hp
  · cases h2
  · cases h2
    simp only at h1
    have hrow := H.rowCells j hj
    have hdl : (ys.drop q).length = n - q := by rw [List.length_drop, h1]
    have hmul : (n - q) * by_ ≤ ys.length * by_ := Nat.mul_le_mul_right _ (by omega)
    refine e_append H i hi hT he (n := n - q) (cx := cp - q) (news := flat enc (ys.drop q)) hx hy (by rw [show (flat enc (ys.drop q)).length = (ys.drop q).length * m from flat_len (fun y _ => hl.cell y), hdl]) ?_ ?_ (by show (0 + (n - q)) * by_ ≤ _; rw [Nat.zero_add]; omega) (by show 0 + (n - q) ≤ _; omega) fun s' w' h5 h6 H2 => k s' w' (by rw [h5]; show 0 + (n - q) = _; omega) ?_
    · intro r v hr
      rw [flat_drop hl.cell] at hr
      rw [List.getElem?_drop] at hr
      have h8 := hrow _ v hr
      by_cases hc : cp = q
      · have h9 : q * m + r < (flat enc ys).length := (List.getElem?_eq_some_iff.1 hr).1
        rw [show (flat enc ys).length = ys.length * m from flat_len (fun y _ => hl.cell y), show ys.length = q by omega] at h9
        omega
      · rw [if_neg hc, add_off]; exact h8
    · rw [List.all_eq_true]
      intro v hv
      obtain ⟨y, hy, hv⟩ := List.mem_flatMap.1 hv
      exact List.all_eq_true.1 (hl.one y) v hv
    · exact H2
/-- A header as a row has it. -/
def Sl.fit (s : Sl) (n : Nat) : Prop := s.len = n ∧ (s = Sl.nil ∧ n = 0 ∨ ∃ b n cp, s = ⟨some ⟨b, 0, none⟩, n, cp⟩ ∧ n ≤ cp)
theorem Holds.rowFit (H : Holds c g w (L ++ F)) (i : Nat) (hi : L[i]? = some (rowE E enc m s xs)) (hm : ∀ y, (enc y).cells.size = m) (hp : Nat.blt 0 m = true) : s.fit xs.length := by
  obtain ⟨h1, ⟨h2, h3⟩ | h⟩ := H.rowShape i hi hm hp
  · exact ⟨h1, .inl ⟨h2, by rw [h3]; rfl⟩⟩
  · exact ⟨h1, .inr h⟩
theorem x_sliceToS {T e : TypeId} {x l : Operand} {n mm q : Nat} {k : IntKind} (hT : P.underlying T = some (.slice e)) (hm : Sz P e mm) (hs : s.fit n) (hq : q ≤ n) (hx : ρ x = s.v) (hl : ρ l = .int k (q : Nat)) :
    (execOp ρ ⟨d, .slice T x none (some l) none, ty, pos, af, gd⟩).run P w = .ok (.value (⟨s.a, q, s.cap⟩ : Sl).v) w := by
  obtain ⟨h1, ⟨h2, h3⟩ | ⟨b, n', cp, h2, h3⟩⟩ := hs
  · subst h2
    have : q = 0 := by omega
    subst this
    exact x_sliceToNil hT hm hx hl
  · subst h2
    simp only at h1
    exact x_sliceTo hT hm hx hl (by omega) (by show (q : Int) ≤ (cp : Nat); omega)
/-- What is left of a slice from a place on. -/
def fromV (s : Sl) (q m : Nat) : Value := match s.a with
  | none => .slice none 0 0
  | some a => .slice (some ⟨a.block, if s.cap = q then 0 else q * m, none⟩) (s.len - q) (s.cap - q)
theorem x_sliceFromS {T e : TypeId} {x l : Operand} {n mm q : Nat} {k : IntKind} (hT : P.underlying T = some (.slice e)) (hm : Sz P e mm) (hs : s.fit n) (hq : q ≤ n) (hx : ρ x = s.v) (hl : ρ l = .int k (q : Nat)) :
    (execOp ρ ⟨d, .slice T x (some l) none none, ty, pos, af, gd⟩).run P w = .ok (.value (fromV s q mm)) w := by
  obtain ⟨h1, ⟨h2, h3⟩ | ⟨b, n', cp, h2, h3⟩⟩ := hs
  · subst h2
    have : q = 0 := by omega
    subst this
    exact x_sliceFromNil hT hm hx hl
  · subst h2
    simp only at h1
    exact x_sliceFrom hT hm hx hl (by omega) (by show (q : Int) ≤ (n' : Nat); omega) h3
theorem Holds.rowTakeS {k : Nat} (H : Holds c g w (L ++ F)) (i : Nat) (hi : L[i]? = some (rowE E enc m s xs)) (hm : ∀ y, (enc y).cells.size = m) (hp : Nat.blt 0 m = true) (hk : k ≤ xs.length) : Holds c g w (L.set i (rowE E enc m ⟨s.a, k, s.cap⟩ (xs.take k)) ++ F) := by
  obtain ⟨h1, ⟨h2, h3⟩ | ⟨b, n, cp, h2, h3⟩⟩ := H.rowShape i hi hm hp
  · subst h2; subst h3
    have : k = 0 := by simpa using hk
    subst this
    have : L.set i (rowE E enc m ⟨Sl.nil.a, 0, Sl.nil.cap⟩ (([] : List α).take 0)) = L := by
      apply List.ext_getElem?
      intro q
      by_cases hqi : i = q
      · subst hqi
        rw [List.getElem?_set_self (List.getElem?_eq_some_iff.1 hi).1, hi]; rfl
      · rw [List.getElem?_set_ne hqi]
    rw [this]
    exact H
  · subst h2
    exact H.rowTake i hi hm hp hk
theorem e_appendFromS {T by_ : Nat} {z : Value} {x y : Operand} {s2 : Sl} {q : Nat} {ys : List α} (H : Holds c g w (L ++ F)) (i j : Nat) (hi : L[i]? = some (rowE E enc m Sl.nil [])) (hj : L[j]? = some (rowE E enc m s2 ys)) (hT : P.underlying T = some (.slice E)) (he : El P E m by_ z) (hl : ElLaw P E enc m)
    (hx : ev f x = Sl.nil.v) (hy : ev f y = fromV s2 q m) (hq : q ≤ ys.length) (hb : ys.length * by_ ≤ 140737488355328) (hbl : ys.length ≤ 9223372036854775807)
    (k : ∀ s' w', s'.len = ys.length - q → Holds c g w' (L.set i (rowE E enc m s' (ys.drop q)) ++ F) → R s'.v w') :
    EffAt P ⟨d, .call ⟨.builtin .append, #[x, y], #[T, T]⟩, ty, pos, af, gd⟩ f w R := by
  have hp : Nat.blt 0 m = true := by simpa using he.pos
  obtain ⟨h1, ⟨h2, h3⟩ | ⟨b, n, cp, h2, h3⟩⟩ := H.rowShape j hj hl.cell hp
  · subst h2; subst h3
    have hq0 : q = 0 := by simpa using hq
    subst hq0
    refine e_appendNone (s := Sl.nil) hl.sz (Nat.le_refl _) hT hx hy (k Sl.nil w (by rfl) ?_)
    have : L.set i (rowE E enc m Sl.nil (([] : List α).drop 0)) = L := by
      apply List.ext_getElem?
      intro q
      by_cases hqi : i = q
      · subst hqi
        rw [List.getElem?_set_self (List.getElem?_eq_some_iff.1 hi).1, hi]; rfl
      · rw [List.getElem?_set_ne hqi]
    rw [this]
    exact H
  · subst h2
    exact e_appendFrom H i j hi hj hT he hl hx hy hq hb hbl k
end
end Go.Tw
