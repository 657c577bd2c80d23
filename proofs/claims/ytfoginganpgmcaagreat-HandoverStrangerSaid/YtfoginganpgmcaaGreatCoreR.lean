/- Rows of the walk's own, element by element; parts of slices. Nothing here speaks of a program. -/
import Derived.Test.YtfoginganpgmcaaGreatCoreS
import Derived.Test.YtfoginganpgmcaaGreatCoreF
import Derived.Laws.Tables
set_option linter.unusedSimpArgs false
set_option linter.unusedVariables false
namespace Go.Tw
open Go

def flat {α : Type} (enc : α → Value) (xs : List α) : List Value := xs.flatMap fun y => (enc y).cells.toList
/-- A row of elements. -/
def rowE {α : Type} (E : TypeId) (enc : α → Value) (m : Nat) (s : Sl) (xs : List α) : Asn := rowA E m s (flat enc xs)

theorem setMany_mid : ∀ (l mid pre post : List Value), mid.length = l.length → setMany (pre ++ mid ++ post).toArray pre.length l = (pre ++ l ++ post).toArray
  | [], mid, pre, post, h => by
    have : mid = [] := List.length_eq_zero_iff.1 h
    subst this; rfl
  | v :: r, [], pre, post, h => by simp at h
  | v :: r, x :: mid, pre, post, h => by
    have ih := setMany_mid r mid (pre ++ [v]) post (by simpa using h)
    rw [setMany]
    have e : (pre ++ x :: mid ++ post).toArray.setIfInBounds pre.length v = (pre ++ [v] ++ mid ++ post).toArray := by
      apply Array.ext'
      simp [List.set_append]
    rw [e]
    rw [show (pre ++ [v]).length = pre.length + 1 by simp] at ih
    rw [ih]
    simp

section
variable {α : Type} {c : Cx} {g : Heap} {w : World} {L F : List Asn} {enc : α → Value} {m : Nat} {s : Sl} {xs : List α} {E : TypeId} {P : Program} {ρ : Operand → Value} {f : Fr} {d : Option Nat} {ty : TypeId} {pos : String} {af : Array Edge} {gd : Option (Nat × Bool)} {R : Value → World → Prop}

theorem flat_set {k : Nat} (hm : ∀ y, (enc y).cells.size = m) (hk : k < xs.length) (y : α) (junk : List Value) : setMany (flat enc xs ++ junk).toArray (0 + k * m) (enc y).cells.toList = (flat enc (xs.set k y) ++ junk).toArray := by
  have e1 : flat enc xs = flat enc (xs.take k) ++ (enc xs[k]).cells.toList ++ flat enc (xs.drop (k + 1)) := by
    unfold flat
    conv => lhs; rw [← List.take_append_drop k xs, List.drop_eq_getElem_cons hk]
    rw [List.flatMap_append, List.flatMap_cons, List.append_assoc]
  have e2 : flat enc (xs.set k y) = flat enc (xs.take k) ++ (enc y).cells.toList ++ flat enc (xs.drop (k + 1)) := by
    unfold flat
    rw [List.set_eq_take_append_cons_drop, if_pos hk, List.flatMap_append, List.flatMap_cons, List.append_assoc]
  have e3 : (flat enc (xs.take k)).length = 0 + k * m := by
    unfold flat
    rw [flat_len (fun y _ => hm y), List.length_take, Nat.min_eq_left (by omega)]
    omega
  rw [e1, e2, ← e3, List.append_assoc _ (flat enc (xs.drop (k + 1))), setMany_mid _ _ _ _ (by simp [hm]), ← List.append_assoc]

theorem Holds.rowE_some {b n cp : Nat} : Holds c g w (rowE E enc m ⟨some ⟨b, 0, none⟩, n, cp⟩ xs :: L) ↔ ∃ junk, ((flat enc xs).length = n * m ∧ (flat enc xs).length + junk.length = cp * m ∧ n ≤ cp) ∧ Holds c g w (pt b (.cells (flat enc xs ++ junk).toArray E) :: L) := Holds.row_some

theorem x_loadRow {T : TypeId} {X : Operand} {k : Nat} {x : α} {b n cp : Nat} (H : Holds c g w (L ++ F)) (i : Nat) (hi : L[i]? = some (rowE E enc m ⟨some ⟨b, 0, none⟩, n, cp⟩ xs)) (he : ElLaw P T enc m) (hx : ρ X = .pointer (some ⟨b, 0 + k * m, none⟩)) (hk : xs[k]? = some x) :
    (execOp ρ ⟨d, .load T X, ty, pos, af, gd⟩).run P w = .ok (.value (enc x)) w := by
  obtain ⟨junk, ⟨h1, h2, h3⟩, H'⟩ := Holds.rowE_some.1 (H.focusF i hi)
  have hb := H'.head
  have hkl : k < xs.length := (List.getElem?_eq_some_iff.1 hk).1
  have hlen : (flat enc xs).length = xs.length * m := flat_len (fun y _ => he.cell y)
  have h5 : (k + 1) * m ≤ xs.length * m := Nat.mul_le_mul_right _ hkl
  rw [Nat.add_mul] at h5
  have h4 : (flat enc xs ++ junk).toArray.extract (0 + k * m) (0 + k * m + m) = (enc x).cells := by
    have := flat_ext (pre := []) (fun y _ => he.cell y) hk
    simp only [List.nil_append, List.length_nil] at this
    rw [← this]
    apply Array.ext'
    simp
    rw [List.drop_append_of_le_length (by rw [hlen]; omega), List.take_append_of_le_length (by rw [List.length_drop, hlen]; omega)]
    rfl
  rcases he.ag with ⟨hA, hv⟩ | ⟨hA, rfl, hv⟩
  · obtain ⟨vs, hv⟩ := hv x
    rw [hv] at h4
    rw [x_load1 hA he.sz hx hb (by apply Nat.ble_eq_true_of_le; simp [hlen]; omega), h4, hv]
    rfl
  · have hone := hv x
    have h6 : (enc x).cells = #[enc x] := by
      cases he : enc x <;> rw [he] at hone <;> simp [oneCell] at hone <;> rfl
    rw [h6] at h4
    refine x_load0b hA hx hb ?_
    have := congrArg (fun a : Array Value => a[0]?) h4
    rw [Array.getElem?_extract] at this
    simp at this
    simpa using this.2

theorem e_storeRow {T : TypeId} {X Y : Operand} {k : Nat} {b n cp : Nat} (H : Holds c g w (L ++ F)) (i : Nat) (hi : L[i]? = some (rowE E enc m ⟨some ⟨b, 0, none⟩, n, cp⟩ xs)) (he : ElLaw P T enc m) (y : α) (hx : ev f X = .pointer (some ⟨b, 0 + k * m, none⟩)) (hy : ev f Y = enc y) (hk : k < xs.length)
    (kk : ∀ w', Holds c g w' (L.set i (rowE E enc m ⟨some ⟨b, 0, none⟩, n, cp⟩ (xs.set k y)) ++ F) → R undef w') : EffAt P ⟨d, .store T X Y, ty, pos, af, gd⟩ f w R := by
  obtain ⟨junk, ⟨h1, h2, h3⟩, H'⟩ := Holds.rowE_some.1 (H.focusF i hi)
  have hlen : (flat enc xs).length = xs.length * m := flat_len (fun y _ => he.cell y)
  have h5 : (k + 1) * m ≤ xs.length * m := Nat.mul_le_mul_right _ hk
  rw [Nat.add_mul] at h5
  refine e_store (L := [_]) (F := L.eraseIdx i ++ F) H' 0 rfl he.sz hx hy (he.cell y) (by apply Nat.ble_eq_true_of_le; simp [hlen]; omega) (he.one y) fun w' H2 => kk w' ?_
  rw [flat_set (fun y => he.cell y) hk] at H2
  refine Holds.unfocusF hi (Holds.rowE_some.2 ⟨junk, ⟨?_, ?_, h3⟩, H2⟩)
  · rw [show (flat enc (xs.set k y)).length = (xs.set k y).length * m from flat_len (fun y _ => he.cell y), List.length_set, ← hlen, h1]
  · rw [show (flat enc (xs.set k y)).length = (xs.set k y).length * m from flat_len (fun y _ => he.cell y), List.length_set, ← hlen, h2]

theorem rowE_nil {α : Type} {enc : α → Value} : rowE E enc m s [] = rowA E m s [] := rfl
theorem flat_snoc (y : α) : flat enc (xs ++ [y]) = flat enc xs ++ (enc y).cells.toList := by simp [flat]
/-- One element appended. -/
theorem e_append1 {T by_ : Nat} {z : Value} {x Y : Operand} (y : α) (H : Holds c g w (L ++ F)) (i j : Nat) {b : Nat} {E' : TypeId} (hi : L[i]? = some (rowE E enc m s xs)) (hj : L[j]? = some (pt b (.cells (enc y).cells E'))) (hT : P.underlying T = some (.slice E)) (he : El P E m by_ z) (hc : (enc y).cells.size = m) (h1 : (enc y).cells.toList.all oneCell = true)
    (hx : ev f x = s.v) (hy : ev f Y = .slice (some ⟨b, 0, none⟩) 1 1) (hb : (s.len + 1) * by_ ≤ 140737488355328) (hq : s.len + 1 ≤ 9223372036854775807)
    (k : ∀ s' w', s'.len = s.len + 1 → (∃ b, s'.a = some ⟨b, 0, none⟩) → Holds c g w' (L.set i (rowE E enc m s' (xs ++ [y])) ++ F) → R s'.v w') :
    EffAt P ⟨d, .call ⟨.builtin .append, #[x, Y], #[T, T]⟩, ty, pos, af, gd⟩ f w R := by
  refine e_appendLit H i j hi hj hT he hx hy (by omega) h1 hb hq fun s' w' h2 h3 H2 => ?_
  have e : rowA E m s' (flat enc xs ++ (enc y).cells.toList) = rowE E enc m s' (xs ++ [y]) := by unfold rowE; rw [flat_snoc]
  rw [e] at H2
  refine k s' w' h2 ?_ H2
  have hl2 : (L.set i (rowE E enc m s' (xs ++ [y])))[i]? = some (rowE E enc m s' (xs ++ [y])) := by
    have : i < L.length := (List.getElem?_eq_some_iff.1 hi).1
    rw [List.getElem?_set_self this]
  rcases (H2.focusF i hl2).row_cases with ⟨h, _, _⟩ | h
  · rw [h] at h3
    have := (h3 rfl).2
    omega
  · exact h

def fillL (pl : List (Nat × Nat)) (cs : Array Value) : List (Nat × Value) → Option (Array Value)
  | [] => some cs
  | (i, v) :: r => match pl[i]? with
    | none => none
    | some p => bif Nat.beq v.cells.size p.2 && Nat.ble (p.1 + v.cells.size) cs.size then fillL pl (setMany cs p.1 v.cells.toList) r else none
theorem fill_fillL (pl : List (Nat × Nat)) : ∀ (parts : List (Nat × Value)) (cs out : Array Value), fillL pl cs parts = some out → Instr.fill (pl.toArray[·]?) cs parts = some out
  | [], cs, out, h => h
  | (i, v) :: r, cs, out, h => by
    unfold fillL at h
    unfold Instr.fill
    cases hp : pl[i]? with
    | none => rw [hp] at h; cases h
    | some p =>
      have hpp : pl.toArray[i]? = some p := by simpa using hp
      rw [hp] at h
      rw [hpp]
      obtain ⟨off, sz⟩ := p
      simp only at h ⊢
      cases hb : Nat.beq v.cells.size sz && Nat.ble (off + v.cells.size) cs.size with
      | false => rw [hb] at h; cases h
      | true =>
        rw [hb] at h
        simp only [cond_true] at h
        obtain ⟨h1, h2⟩ := Bool.and_eq_true_iff.1 hb
        have h1 := Nat.eq_of_beq_eq_true h1
        have h2 := Nat.le_of_ble_eq_true h2
        rw [if_neg (by simp [h1]; omega)]
        have e : (v.cells.zipIdx.foldl (fun cs (x : Value × Nat) => cs.setIfInBounds (off + x.2) x.1) cs) = setMany cs off v.cells.toList := by
          rw [← Array.foldl_toList, Array.toList_zipIdx, foldl_setMany]
          rfl
        have := fill_fillL pl r _ out h
        rw [← e] at this
        exact this
/-- What the program's table says of a struct that is put together. -/
def StLaw (P : Program) (T : TypeId) (pl : List (Nat × Nat)) (z : Array Value) : Prop := ∀ parts, P.built T parts = Instr.fill (pl.toArray[·]?) z parts
theorem x_buildSt {T : TypeId} {parts : Array (Nat × Operand)} {pl : List (Nat × Nat)} {z cs : Array Value} (hst : StLaw P T pl z) (vs : List Value) (hv : parts.toList.map (fun p => ρ p.2) = vs) (hf : fillL pl z ((parts.toList.map (·.1)).zip vs) = some cs) :
    (execOp ρ ⟨d, .build T parts, ty, pos, af, gd⟩).run P w = .ok (.value (.agg cs)) w := by
  have h1 : (parts.map fun (p : Nat × Operand) => (p.1, ρ p.2)).toList = (parts.toList.map (·.1)).zip vs := by
    rw [Array.toList_map, ← hv, List.zip_map']
  have := run_build (P := P) w T (parts.map fun (p : Nat × Operand) => (p.1, ρ p.2)) cs (by rw [hst, h1]; exact fill_fillL pl _ _ _ hf)
  show (do let v ← Instr.build T (parts.map fun (p : Nat × Operand) => (p.1, ρ p.2)); pure (Next.value v) : Sem Next).run P w = _
  simp only [Sem.run_bind, this, Result.andThen_ok, Sem.run_pure]
/-- The cells of a sealed slice. -/
theorem SlR.cells (hs : SlR g enc m s xs) (hm : ∀ y, (enc y).cells.size = m) (H : Holds c g w L) {a : Addr} (ha : s.a = some a) : ∀ j v, (flat enc xs)[j]? = some v → w.cell? (a.add j) = some v := by
  intro j v hj
  have hlen : (flat enc xs).length = xs.length * m := flat_len (fun y _ => hm y)
  have hjl : j < xs.length * m := by rw [← hlen]; exact (List.getElem?_eq_some_iff.1 hj).1
  have hm0 : 0 < m := by
    rcases Nat.eq_zero_or_pos m with h | h
    · subst h; omega
    · exact h
  have hi : j / m < xs.length := Nat.div_lt_of_lt_mul (by rw [Nat.mul_comm]; exact hjl)
  obtain ⟨a', cs, E', z, h1, h2, h3, h4⟩ := hs.at_ (j / m) xs[j / m] (List.getElem?_eq_getElem hi)
  rw [ha] at h1
  cases h1
  have hsp := hs.spot a ha (Nat.lt_of_le_of_lt (Nat.zero_le _) hi)
  have hr : j % m < m := Nat.mod_lt _ hm0
  have hdm : j / m * m + j % m = j := by rw [Nat.mul_comm]; exact Nat.div_add_mod j m
  have h5 := flat_ext (pre := []) (fun y _ => hm y) (List.getElem?_eq_getElem hi)
  simp only [List.nil_append, List.length_nil, Nat.zero_add] at h5
  have e1 : ((enc xs[j / m]).cells)[j % m]? = some v := by
    rw [← h5, Array.getElem?_extract]
    have hjj : (List.flatMap (fun y => (enc y).cells.toList) xs)[j]? = some v := hj
    have hl2 : (List.flatMap (fun y => (enc y).cells.toList) xs).length = xs.length * m := hlen
    have h6 : (j / m + 1) * m ≤ xs.length * m := Nat.mul_le_mul_right _ hi
    rw [Nat.add_mul] at h6
    simp only [List.size_toArray, List.getElem?_toArray]
    rw [if_pos (by omega), hdm, hjj]
  have h3' := Nat.le_of_ble_eq_true h3
  rw [← h4, Array.getElem?_extract] at e1
  rw [if_pos (by omega), Nat.add_assoc, hdm] at e1
  have hb := H.sld _ _ h2
  have : a.add j = ⟨a.block, a.off + j, none⟩ := by
    obtain ⟨b, o, sp⟩ := a
    simp at hsp
    subst hsp
    rw [add_off]
  rw [this, cell_of hb]
  exact e1

/-- A part of a slice, from its beginning. -/
theorem x_sliceTo {T e : TypeId} {x h : Operand} {b n cp mm : Nat} {i : Int} {k : IntKind} (hT : P.underlying T = some (.slice e)) (hm : Sz P e mm) (hx : ρ x = .slice (some ⟨b, 0, none⟩) n cp) (hh : ρ h = .int k i) (h0 : 0 ≤ i) (h1 : i ≤ cp) :
    (execOp ρ ⟨d, .slice T x none (some h) none, ty, pos, af, gd⟩).run P w = .ok (.value (.slice (some ⟨b, 0, none⟩) i.toNat cp)) w := by
  have h2 : i.toNat ≤ cp := by omega
  simp [execOp, go_sem, Instr.slice, Instr.sliceBounds, Instr.sliceBound, hx, hh, underlying, hT, hm w, asIntOf, h0, h1, add_off]
theorem x_eqlSlNil {T T' e : TypeId} {x y : Operand} {a : Option Addr} {n c : Nat} (hT : P.underlying T = some (.slice e)) (hx : ρ x = .slice a n c) (hy : ρ y = .slice none 0 0) :
    (execOp ρ ⟨d, .binOp .eql T x y T', ty, pos, af, gd⟩).run P w = .ok (.value (.bool a.isNone)) w := by
  have : (Op.equal T (.slice a n c) (.slice none 0 0)).run P w = .ok a.isNone w := by
    unfold Op.equal Op.maxDepth Op.equalIn
    cases a <;> simp [underlying, hT, go_sem]
  simp [execOp, hx, hy, go_sem, eqGuard, binOp, this]
end
end Go.Tw
