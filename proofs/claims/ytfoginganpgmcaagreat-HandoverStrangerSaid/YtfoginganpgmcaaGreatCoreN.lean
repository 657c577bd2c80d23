/- Maps, gone through. Nothing here speaks of a program. -/
import Derived.Test.YtfoginganpgmcaaGreatCoreM
set_option linter.unusedSimpArgs false
set_option linter.unusedVariables false
namespace Go.Tw
open Go
set_option linter.unusedSectionVars false

section
variable {K V : Type} [DecidableEq K] {enc : K → Value} {encV : V → Value}

/-- A map that is being gone through: what is still to come, and what came last. -/
structure ItRep (enc : K → Value) (encV : V → Value) (es : Array MapEntry) (clock : Nat) (seen : Array Nat) (l todo : List (K × V)) (cur : Option (K × V)) : Prop where
  rep : MapRep enc encV es clock l
  left : (es.toList.filter fun e => !seen.contains e.born).map (fun e => (e.key, e.val)) = todo.map fun p => (enc p.1, encV p.2)
  cur : ∀ p, cur = some p → ∃ e ∈ es.toList, seen.back? = some e.born ∧ e.key = enc p.1 ∧ e.val = encV p.2

structure ItX where
  es : Array MapEntry
  clock : Nat
  seen : Array Nat
def mapIt (m it : Nat) (enc : K → Value) (encV : V → Value) (l todo : List (K × V)) (cur : Option (K × V)) : Asn :=
  ex fun x : ItX => star [fact (ItRep enc encV x.es x.clock x.seen l todo cur), pt m (.map x.es x.clock), pt it (.mapIter (some m) x.clock x.seen x.clock)]

variable {c : Cx} {g : Heap} {w : World} {L F : List Asn} {m it : Nat} {l todo : List (K × V)} {cur : Option (K × V)}

theorem Holds.mapIt : Holds c g w (Tw.mapIt m it enc encV l todo cur :: L) ↔ ∃ x : ItX, ItRep enc encV x.es x.clock x.seen l todo cur ∧ Holds c g w (pt m (.map x.es x.clock) :: pt it (.mapIter (some m) x.clock x.seen x.clock) :: L) := by
  unfold Tw.mapIt
  rw [Holds.ex]
  constructor
  · rintro ⟨x, h⟩
    rw [Holds.star] at h
    obtain ⟨h1, h2⟩ := Holds.fact.1 h
    exact ⟨x, h1, h2⟩
  · rintro ⟨x, h1, h2⟩
    exact ⟨x, Holds.star.2 (Holds.fact.2 ⟨h1, h2⟩)⟩

/-- The map again, when nobody goes through it any more. -/
theorem Holds.itDone (H : Holds c g w (Tw.mapIt m it enc encV l todo cur :: L)) : Holds c g w (Tw.mapA m enc encV l :: L) := by
  obtain ⟨x, h1, h2⟩ := Holds.mapIt.1 H
  exact Holds.mapA.2 ⟨_, _, h1.rep, (Holds.perm h2 (.swap _ _ _)).tail⟩
theorem Holds.itDoneF (H : Holds c g w (L ++ F)) (i : Nat) (hi : L[i]? = some (Tw.mapIt m it enc encV l todo cur)) : Holds c g w (L.set i (Tw.mapA m enc encV l) ++ F) :=
  Holds.unfocusF hi (H.focusF i hi).itDone

variable {P : Program}

theorem run_getIt {r : Nat} {o : Option Nat} {a b : Nat} {s : Array Nat} {w : World} (h : w.heap[r]? = some (.mapIter o a s b)) : (getObj r).run P w = .ok (.mapIter o a s b) w := by simp [getObj, Sem.run, h]
theorem run_setIt {r : Nat} {o : Option Nat} {a b : Nat} {s : Array Nat} {w : World} {x : Obj} (h : w.heap[r]? = some (.mapIter o a s b)) : (setObj r x).run P w = .ok () { w with heap := w.heap.setIfInBounds r x } := by simp [setObj, Sem.run, h]

theorem run_range {T kt et : TypeId} (hT : P.underlying T = some (.map kt et)) (H : Holds c g w (Tw.mapA m enc encV l :: L)) :
    ∃ it w', (Instr.range T (.map (some m))).run P w = .ok (.pointer (some ⟨it, 0, none⟩)) w' ∧ Holds c g w' (Tw.mapIt m it enc encV l l none :: L) := by
  obtain ⟨es, clock, h, H⟩ := Holds.mapA.1 H
  have hb := H.head
  refine ⟨w.heap.size, { w with heap := w.heap.push (.mapIter (some m) clock #[] clock) }, ?_, ?_⟩
  · simp [Instr.range, run_und hT, run_getObj hb, go_sem]
  · have H2 := H.alloc (.mapIter (some m) clock #[] clock)
    have H3 : Holds c g { w with heap := w.heap.push (.mapIter (some m) clock #[] clock) } (pt m (.map es clock) :: pt w.heap.size (.mapIter (some m) clock #[] clock) :: L) :=
      H2.perm (List.Perm.cons _ (List.perm_append_comm (l₂ := [_])))
    refine Holds.mapIt.2 ⟨⟨es, clock, #[]⟩, ⟨h, ?_, by simp⟩, H3⟩
    have : (es.toList.filter fun e => !(#[] : Array Nat).contains e.born) = es.toList := by simp
    rw [this, h.rows]

theorem nodup_filter_erase {es : List MapEntry} {seen : Array Nat} (hn : (es.map (·.born)).Nodup) {e : MapEntry} {a b : List MapEntry} (h : (es.filter fun e => !seen.contains e.born) = a ++ e :: b) :
    (es.filter fun x => !(seen.push e.born).contains x.born) = a ++ b := by
  have h1 : (es.filter fun x => !(seen.push e.born).contains x.born) = (es.filter fun e => !seen.contains e.born).filter (fun x => !decide (x.born = e.born)) := by
    rw [List.filter_filter]
    congr 1
    funext x
    simp only [Array.contains_push, Bool.not_or]
    rw [Bool.and_comm, show (x.born == e.born) = decide (x.born = e.born) from by rw [Bool.eq_iff_iff]; simp]
  have h2 : ((es.filter fun e => !seen.contains e.born).map (·.born)).Nodup := hn.sublist ((List.filter_sublist).map _)
  rw [h1]
  rw [h] at h2 ⊢
  simp only [List.map_append, List.map_cons] at h2
  rw [List.nodup_append] at h2
  obtain ⟨ha, hb, hab⟩ := h2
  rw [List.nodup_cons] at hb
  rw [List.filter_append, List.filter_cons_of_neg (by simp)]
  congr 1
  · refine List.filter_eq_self.2 fun x hx => ?_
    have := hab x.born (List.mem_map.2 ⟨x, hx, rfl⟩) e.born (by simp)
    simpa using this
  · refine List.filter_eq_self.2 fun x hx => ?_
    have : x.born ≠ e.born := fun he => hb.1 (he ▸ List.mem_map.2 ⟨x, hx, rfl⟩)
    simpa using this

theorem run_next {ty : TypeId} (H : Holds c g w (Tw.mapIt m it enc encV l todo cur :: L)) :
    (todo = [] ∧ (Instr.next (.pointer (some ⟨it, 0, none⟩)) false ty).run P w = .ok (.tuple #[.bool false]) w) ∨
    ∃ p todo' w', todo.Perm (p :: todo') ∧ (Instr.next (.pointer (some ⟨it, 0, none⟩)) false ty).run P w = .ok (.tuple #[.bool true, enc p.1, encV p.2]) w' ∧ Holds c g w' (Tw.mapIt m it enc encV l todo' (some p) :: L) := by
  obtain ⟨⟨es, clock, seen⟩, h, H⟩ := Holds.mapIt.1 H
  have hm := H.head
  have H2 := H.perm (.swap _ _ _)
  have hi := H2.head
  simp only at hm hi h H H2
  have hborn : ∀ e ∈ es.toList, e.born < clock := h.rep.born
  have hge : (es.all fun e => decide (e.born ≥ clock)) = true → es = #[] := by
    intro ha
    cases es with
    | mk es =>
      cases es with
      | nil => rfl
      | cons e r =>
        have h1 := hborn e (by simp)
        simp at ha
        omega
  have hcond : (!seen.isEmpty && !es.isEmpty && es.all fun e => decide (e.born ≥ clock)) = false := by
    cases hx : es.all fun e => decide (e.born ≥ clock)
    · simp
    · rw [hge hx]; simp
  let left := es.filter fun e => !seen.contains e.born
  have hleft : left.toList = es.toList.filter fun e => !seen.contains e.born := by simp [left]
  have hlt : ∀ e ∈ left.toList, e.born < clock := fun e he => hborn e ((List.mem_filter.1 (hleft ▸ he)).1)
  have hold : left.filter (fun e => decide (e.born < clock)) = left := by
    apply Array.toList_inj.1
    rw [Array.toList_filter]
    exact List.filter_eq_self.2 fun e he => by simpa using hlt e he
  have hnew : left.filter (fun e => decide (e.born ≥ clock)) = #[] := by
    apply Array.toList_inj.1
    rw [Array.toList_filter]
    exact List.filter_eq_nil_iff.2 fun e he => by have := hlt e he; simp; omega
  have hl2 := h.left
  rw [← hleft] at hl2
  cases hl : left.toList with
  | nil =>
    left
    have hle : left = #[] := Array.toList_inj.1 (by simp [hl])
    rw [hl] at hl2
    refine ⟨by simpa using hl2.symm, ?_⟩
    unfold Instr.next
    simp only [Sem.run_bind, run_getIt hi, Result.andThen_ok, run_getObj hm, hcond, Bool.false_eq_true, if_false]
    rw [show (es.filter fun e => !seen.contains e.born) = left from rfl, hold, hnew, hle]
    simp [choose, Sem.run, Question.forced, go_sem]
  | cons e0 r0 =>
    right
    have hne : left.isEmpty = false := by
      cases hx : left.isEmpty
      · rfl
      · have : left = #[] := by simpa using hx
        rw [this] at hl; simp at hl
    have hsz : 0 < left.size := by
      have : left.size = left.toList.length := (Array.length_toList).symm
      rw [this, hl]; simp
    -- the number that is chosen
    have key : ∀ (n : Nat) (hn : n < left.size) (dr : Nat) , ∃ p todo' w', todo.Perm (p :: todo') ∧
        (do setObj it (.mapIter (some m) clock (seen.push left[n].born) clock); pure (Value.tuple #[.bool true, left[n].key, left[n].val]) : Sem Value).run P { w with drawn := dr } = .ok (.tuple #[.bool true, enc p.1, encV p.2]) w' ∧
        Holds c g w' (Tw.mapIt m it enc encV l todo' (some p) :: L) := by
      intro n hn dr
      have hn1 : n < left.toList.length := by simpa using hn
      have hn2 : n < todo.length := by
        have := congrArg List.length hl2
        simp at this
        omega
      have hsplit : left.toList = left.toList.take n ++ left.toList[n] :: left.toList.drop (n + 1) := by
        rw [List.getElem_cons_drop, List.take_append_drop]
      have hsplit2 : todo = todo.take n ++ todo[n] :: todo.drop (n + 1) := by
        rw [List.getElem_cons_drop, List.take_append_drop]
      have hpk : (left[n].key, left[n].val) = (enc todo[n].1, encV todo[n].2) := by
        have := congrArg (fun x => x[n]?) hl2
        simp only [List.getElem?_map] at this
        rw [List.getElem?_eq_getElem hn1, List.getElem?_eq_getElem hn2] at this
        simpa using this
      have hpk1 : left[n].key = enc todo[n].1 := congrArg Prod.fst hpk
      have hpk2 : left[n].val = encV todo[n].2 := congrArg Prod.snd hpk
      have hlt0 : it < w.heap.size := (Array.getElem?_eq_some_iff.1 hi).1
      refine ⟨todo[n], todo.take n ++ todo.drop (n + 1), { w with drawn := dr, heap := w.heap.setIfInBounds it (.mapIter (some m) clock (seen.push left[n].born) clock) }, ?_, ?_, ?_⟩
      · conv => lhs; rw [hsplit2]
        exact List.perm_middle
      · have hi' : ({ w with drawn := dr } : World).heap[it]? = some (.mapIter (some m) clock seen clock) := hi
        simp only [Sem.run_bind, run_setIt hi', Result.andThen_ok, Sem.run_pure, hpk1, hpk2]
      · have H3 : Holds c g { w with drawn := dr, heap := w.heap.setIfInBounds it (.mapIter (some m) clock (seen.push left[n].born) clock) } (pt it (.mapIter (some m) clock (seen.push left[n].born) clock) :: pt m (.map es clock) :: L) :=
          (H2.drew dr).turn rfl rfl rfl (by simp [hlt0]) fun i hi => by simp [Array.getElem?_setIfInBounds_ne (Ne.symm hi)]
        refine Holds.mapIt.2 ⟨⟨es, clock, seen.push left[n].born⟩, ⟨h.rep, ?_, ?_⟩, H3.perm (.swap _ _ _)⟩
        · have he : (es.toList.filter fun e => !seen.contains e.born) = left.toList.take n ++ left[n] :: left.toList.drop (n + 1) := by
            rw [← hleft]; conv => lhs; rw [hsplit]
            rw [Array.getElem_toList]
          show (es.toList.filter fun e => !(seen.push left[n].born).contains e.born).map _ = _
          rw [nodup_filter_erase h.rep.stamps he]
          have hl3 := hl2
          rw [List.map_append, List.map_append, List.map_take, List.map_take, List.map_drop, List.map_drop, hl3]
        · intro p hp
          cases hp
          refine ⟨left[n], ?_, by simp, hpk1, hpk2⟩
          have : left[n] ∈ left.toList := by simp
          rw [hleft] at this
          exact (List.mem_filter.1 this).1
    have hcs : ((if left.isEmpty then #[none] else #[]) ++ (left ++ (#[] : Array MapEntry)).map some) = left.map some := by simp [hne]
    have e1 : (Instr.next (.pointer (some ⟨it, 0, none⟩)) false ty).run P w = (do
        match (left.map some)[← choose (.mapNext (left.map some).size)]? with
        | some (some e) =>
          setObj it (.mapIter (some m) clock (seen.push e.born) clock)
          pure (.tuple #[.bool true, e.key, e.val])
        | some none => pure (.tuple #[.bool false])
        | none => stuck "Next: no such candidate" : Sem Value).run P w := by
      unfold Instr.next
      simp only [Sem.run_bind, run_getIt hi, Result.andThen_ok, run_getObj hm, hcond, Bool.false_eq_true, if_false]
      rw [show (es.filter fun e => !seen.contains e.born) = left from rfl, hold, hnew, hcs]
      rfl
    have hch : ∀ n, n < left.size → ∀ dr, (match (left.map some)[n]? with
        | some (some e) => do
          setObj it (.mapIter (some m) clock (seen.push e.born) clock)
          pure (.tuple #[.bool true, e.key, e.val])
        | some none => pure (.tuple #[.bool false])
        | none => stuck "Next: no such candidate" : Sem Value).run P { w with drawn := dr } =
        (do setObj it (.mapIter (some m) clock (seen.push (left.getD n default).born) clock); pure (Value.tuple #[.bool true, (left.getD n default).key, (left.getD n default).val]) : Sem Value).run P { w with drawn := dr } := by
      intro n hn dr
      simp [hn]
    have key2 : ∀ (n : Nat) (hn : n < left.size) (dr : Nat) , ∃ p todo' w', todo.Perm (p :: todo') ∧
        (match (left.map some)[n]? with
        | some (some e) => do
          setObj it (.mapIter (some m) clock (seen.push e.born) clock)
          pure (.tuple #[.bool true, e.key, e.val])
        | some none => pure (.tuple #[.bool false])
        | none => stuck "Next: no such candidate" : Sem Value).run P { w with drawn := dr } = .ok (.tuple #[.bool true, enc p.1, encV p.2]) w' ∧
        Holds c g w' (Tw.mapIt m it enc encV l todo' (some p) :: L) := by
      intro n hn dr
      obtain ⟨p, todo', w', h1, h2, h3⟩ := key n hn dr
      refine ⟨p, todo', w', h1, ?_, h3⟩
      rw [hch n hn dr, ← h2]
      simp [hn]
    rw [e1]
    simp only [choose, bind, Sem.bind, Sem.run, Array.size_map]
    by_cases hf : (Question.mapNext left.size).forced = true
    · rw [if_pos hf]
      exact key2 0 hsz w.drawn
    · rw [if_neg hf]
      have hlt2 : (Question.mapNext left.size).cut (w.tape w.drawn (.mapNext left.size)) < left.size := by
        simp only [Question.cut]
        exact Nat.mod_lt _ hsz
      exact key2 _ hlt2 (w.drawn + 1)

theorem run_entry {p : K × V} (H : Holds c g w (Tw.mapIt m it enc encV l todo (some p) :: L)) : (Instr.entry (.pointer (some ⟨it, 0, none⟩))).run P w = .ok (.tuple #[enc p.1, encV p.2]) w := by
  obtain ⟨⟨es, clock, seen⟩, h, H⟩ := Holds.mapIt.1 H
  have hm := H.head
  have hi := (H.perm (.swap _ _ _)).head
  simp only at hm hi h
  obtain ⟨e, he, hb, hk, hv⟩ := h.cur p rfl
  have hf : es.find? (fun x => x.born == e.born) = some e := by
    have hn := h.rep.stamps
    cases es with
    | mk es =>
      simp only at he hn
      simp only [List.find?_toArray]
      clear h H hm hi
      induction es with
      | nil => cases he
      | cons x r ih =>
        rw [List.map_cons, List.nodup_cons] at hn
        rcases List.mem_cons.1 he with rfl | he
        · simp
        · have : x.born ≠ e.born := fun hx => hn.1 (hx ▸ List.mem_map.2 ⟨e, he, rfl⟩)
          rw [List.find?_cons_of_neg (by simpa using this)]
          exact ih he hn.2
  unfold Instr.entry
  simp only [Sem.run_bind, run_getIt hi, Result.andThen_ok, hb, run_getObj hm, bne_self_eq_false, Bool.false_eq_true, if_false, hf, hk, hv, Sem.run_pure]

variable {f : Fr} {d : Option Nat} {ty : TypeId} {pos : String} {af : Array Edge} {gd : Option (Nat × Bool)} {R : Value → World → Prop}

theorem e_range {T kt et : TypeId} {x : Operand} (H : Holds c g w (L ++ F)) (i : Nat) (hi : L[i]? = some (Tw.mapA m enc encV l)) (hT : P.underlying T = some (.map kt et)) (hx : ev f x = .map (some m))
    (k : ∀ it w', Holds c g w' (L.set i (Tw.mapIt m it enc encV l l none) ++ F) → R (.pointer (some ⟨it, 0, none⟩)) w') : EffAt P ⟨d, .range T x, ty, pos, af, gd⟩ f w R := by
  obtain ⟨it, w', hr, H'⟩ := run_range (P := P) hT (H.focusF i hi)
  refine e_val (v := .pointer (some ⟨it, 0, none⟩)) (w' := w') ?_ (k _ _ (Holds.unfocusF hi H'))
  simp [execOp, hx, go_sem, hr]

theorem e_next {x : Operand} (H : Holds c g w (L ++ F)) (i : Nat) (hi : L[i]? = some (Tw.mapIt m it enc encV l todo cur)) (hx : ev f x = .pointer (some ⟨it, 0, none⟩))
    (k0 : todo = [] → R (.tuple #[.bool false]) w)
    (k : ∀ p todo' w', todo.Perm (p :: todo') → Holds c g w' (L.set i (Tw.mapIt m it enc encV l todo' (some p)) ++ F) → R (.tuple #[.bool true, enc p.1, encV p.2]) w') : EffAt P ⟨d, .next x false, ty, pos, af, gd⟩ f w R := by
  rcases run_next (P := P) (ty := ty) (H.focusF i hi) with ⟨h0, hr⟩ | ⟨p, todo', w', hp, hr, H'⟩
  · refine e_val (v := .tuple #[.bool false]) (w' := w) ?_ (k0 h0)
    simp [execOp, hx, go_sem, hr]
  · refine e_val (v := .tuple #[.bool true, enc p.1, encV p.2]) (w' := w') ?_ (k _ _ _ hp (Holds.unfocusF hi H'))
    simp [execOp, hx, go_sem, hr]

theorem x_entry {x : Operand} {p : K × V} (H : Holds c g w (L ++ F)) (i : Nat) (hi : L[i]? = some (Tw.mapIt m it enc encV l todo (some p))) (hx : ev f x = .pointer (some ⟨it, 0, none⟩)) :
    (execOp (ev f) ⟨d, .entry x, ty, pos, af, gd⟩).run P w = .ok (.value (.tuple #[enc p.1, encV p.2])) w := by
  have := run_entry (P := P) (H.focusF i hi)
  simp [execOp, hx, go_sem, this]

theorem Holds.emptyAt {b : Nat} (H : Holds c g w (L ++ F)) (i : Nat) (hi : L[i]? = some (pt b (.map #[] 0))) : Holds c g w (L.set i (Tw.mapA b enc encV []) ++ F) :=
  Holds.unfocusF hi (Holds.mapA.2 ⟨_, _, MapRep.empty, H.focusF i hi⟩)
theorem Holds.keysNodup (H : Holds c g w (L ++ F)) (i : Nat) (hi : L[i]? = some (Tw.mapA m enc encV l)) : (l.map (·.1)).Nodup :=
  let ⟨_, _, h, _⟩ := Holds.mapA.1 (H.focusF i hi); h.keys
theorem kget_mem {l : List (K × V)} {a : K} {v : V} (h : kget l a = some v) : (a, v) ∈ l := by
  induction l with
  | nil => simp [kget] at h
  | cons p r ih =>
    simp only [kget] at h
    by_cases hp : p.1 = a
    · rw [if_pos hp] at h
      have : p = (a, v) := by cases p; simp at hp h; rw [hp, h]
      rw [this]; simp
    · rw [if_neg hp] at h
      exact List.mem_cons_of_mem _ (ih h)
theorem mem_kget {l : List (K × V)} {p : K × V} (hn : (l.map (·.1)).Nodup) (h : p ∈ l) : kget l p.1 = some p.2 := by
  induction l with
  | nil => cases h
  | cons q r ih =>
    rw [List.map_cons, List.nodup_cons] at hn
    simp only [kget]
    rcases List.mem_cons.1 h with rfl | h
    · simp
    · rw [if_neg fun (e : q.1 = p.1) => hn.1 (e ▸ List.mem_map.2 ⟨p, h, rfl⟩)]
      exact ih hn.2 h
/-- The length of a map. -/
theorem Holds.lenMap {T kt et : TypeId} {x : Operand} (H : Holds c g w (L ++ F)) (i : Nat) (hi : L[i]? = some (Tw.mapA m enc encV l)) (hT : P.underlying T = some (.map kt et)) (hx : ev f x = .map (some m)) :
    (execOp (ev f) ⟨d, .call ⟨.builtin .len, #[x], #[T]⟩, ty, pos, af, gd⟩).run P w = .ok (.value (.int .i64 l.length)) w := by
  obtain ⟨es, clock, h, H⟩ := Holds.mapA.1 (H.focusF i hi)
  rw [x_lenMap hT hx H.head, h.size]
theorem Holds.lookupOk {T MT et : TypeId} {x y : Operand} {a : K} {z : V} (H : Holds c g w (L ++ F)) (i : Nat) (hi : L[i]? = some (Tw.mapA m enc encV l)) (hl : KeyLaw P T enc) (hT : P.underlying MT = some (.map T et)) (hz : Zr P et (encV z))
    (hx : ev f x = .map (some m)) (hy : ev f y = enc a) :
    (execOp (ev f) ⟨d, .lookup MT x y true, ty, pos, af, gd⟩).run P w = .ok (.value (.tuple #[encV ((kget l a).getD z), .bool (kget l a).isSome])) w := by
  obtain ⟨es, clock, h, H⟩ := Holds.mapA.1 (H.focusF i hi)
  exact x_lookupOk hl hT hz h hx H.head hy
theorem Holds.lookup {T MT et : TypeId} {x y : Operand} {a : K} {z : V} (H : Holds c g w (L ++ F)) (i : Nat) (hi : L[i]? = some (Tw.mapA m enc encV l)) (hl : KeyLaw P T enc) (hT : P.underlying MT = some (.map T et)) (hz : Zr P et (encV z))
    (hx : ev f x = .map (some m)) (hy : ev f y = enc a) :
    (execOp (ev f) ⟨d, .lookup MT x y false, ty, pos, af, gd⟩).run P w = .ok (.value (encV ((kget l a).getD z))) w := by
  obtain ⟨es, clock, h, H⟩ := Holds.mapA.1 (H.focusF i hi)
  exact x_lookup hl hT hz h hx H.head hy
theorem x_eqlMapNil {ρ : Operand → Value} {T T' kt et : TypeId} {x y : Operand} {a : Option Nat} (hT : P.underlying T = some (.map kt et)) (hx : ρ x = .map a) (hy : ρ y = .map none) :
    (execOp ρ ⟨d, .binOp .eql T x y T', ty, pos, af, gd⟩).run P w = .ok (.value (.bool a.isNone)) w := by
  have : (Op.equal T (.map a) (.map none)).run P w = .ok a.isNone w := by
    unfold Op.equal Op.maxDepth Op.equalIn
    cases a <;> simp [underlying, hT, go_sem]
  simp [execOp, hx, hy, go_sem, eqGuard, binOp, this]
theorem x_mkIfaceMap {ρ : Operand → Value} {T kt et : TypeId} {x : Operand} {a : Option Nat} (hT : P.underlying T = some (.map kt et)) (hx : ρ x = .map a) :
    (execOp ρ ⟨d, .makeInterface T x, ty, pos, af, gd⟩).run P w = .ok (.value (.iface T (.map a))) w := by
  simp [execOp, Instr.makeInterface, hx, go_sem, underlying, hT]
theorem x_assertMap {ρ : Operand → Value} {S T kt et : TypeId} {x : Operand} {a : Option Nat} (hT : P.underlying T = some (.map kt et)) (hx : ρ x = .iface T (.map a)) :
    (execOp ρ ⟨d, .typeAssert x S T false, ty, pos, af, gd⟩).run P w = .ok (.value (.map a)) w := by
  simp [execOp, Instr.typeAssert, hx, go_sem, underlying, hT]
theorem run_mapsClone {T : TypeId} (H : Holds c g w (L ++ F)) (i : Nat) (hi : L[i]? = some (Tw.mapA m enc encV l)) :
    ∃ m' w', (Extern.MapsClone.clone #[.iface T (.map (some m))]).run P w = .ok (.iface T (.map (some m'))) w' ∧ Holds c g w' ((L ++ [Tw.mapA m' enc encV l]) ++ F) := by
  obtain ⟨es, clock, h, H2⟩ := Holds.mapA.1 (H.focusF i hi)
  have hb := H2.head
  refine ⟨w.heap.size, { w with heap := w.heap.push (.map es clock) }, ?_, ?_⟩
  · have e : Extern.MapsClone.clone #[.iface T (.map (some m))] = (do
        let .map entries clock ← getObj m | stuck "maps.clone: a map expected"
        pure (.iface T (.map (some (← newObj (.map entries clock)))))) := rfl
    rw [e]
    simp [run_getObj hb, go_sem]
  · have H3 := H.allocF (.map es clock)
    have hl : (L ++ [pt w.heap.size (.map es clock)])[L.length]? = some (pt w.heap.size (.map es clock)) := by simp
    have H4 := Holds.unfocusF hl (Holds.mapA.2 ⟨es, clock, h, H3.focusF L.length hl⟩)
    simpa using H4
theorem Has.lenMap {T kt et : TypeId} {x : Operand} (H : Has c w L) (i : Nat) (hi : L[i]? = some (Tw.mapA m enc encV l)) (hT : P.underlying T = some (.map kt et)) (hx : ev f x = .map (some m)) :
    (execOp (ev f) ⟨d, .call ⟨.builtin .len, #[x], #[T]⟩, ty, pos, af, gd⟩).run P w = .ok (.value (.int .i64 l.length)) w :=
  let ⟨_, _, H⟩ := H; H.lenMap i hi hT hx
theorem Has.lookupOk {T MT et : TypeId} {x y : Operand} {a : K} {z : V} (H : Has c w L) (i : Nat) (hi : L[i]? = some (Tw.mapA m enc encV l)) (hl : KeyLaw P T enc) (hT : P.underlying MT = some (.map T et)) (hz : Zr P et (encV z))
    (hx : ev f x = .map (some m)) (hy : ev f y = enc a) :
    (execOp (ev f) ⟨d, .lookup MT x y true, ty, pos, af, gd⟩).run P w = .ok (.value (.tuple #[encV ((kget l a).getD z), .bool (kget l a).isSome])) w :=
  let ⟨_, _, H⟩ := H; H.lookupOk i hi hl hT hz hx hy
theorem Has.lookup {T MT et : TypeId} {x y : Operand} {a : K} {z : V} (H : Has c w L) (i : Nat) (hi : L[i]? = some (Tw.mapA m enc encV l)) (hl : KeyLaw P T enc) (hT : P.underlying MT = some (.map T et)) (hz : Zr P et (encV z))
    (hx : ev f x = .map (some m)) (hy : ev f y = enc a) :
    (execOp (ev f) ⟨d, .lookup MT x y false, ty, pos, af, gd⟩).run P w = .ok (.value (encV ((kget l a).getD z))) w :=
  let ⟨_, _, H⟩ := H; H.lookup i hi hl hT hz hx hy
end
end Go.Tw
