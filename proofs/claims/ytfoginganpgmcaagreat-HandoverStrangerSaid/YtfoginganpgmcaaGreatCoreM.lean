/- Maps, as lists of pairs. Nothing here speaks of a program. -/
import Derived.Test.YtfoginganpgmcaaGreatCoreE
set_option linter.unusedSimpArgs false
set_option linter.unusedVariables false
namespace Go.Tw
open Go

set_option linter.unusedSectionVars false

theorem run_und {P : Program} {T : TypeId} {d : TypeDesc} {w : World} (h : P.underlying T = some d) : (underlying T).run P w = .ok d w := by simp [underlying, h]
theorem run_getObj {P : Program} {w : World} {b : Nat} {es : Array MapEntry} {clock : Nat} (h : w.heap[b]? = some (.map es clock)) : (getObj b).run P w = .ok (.map es clock) w := by simp [getObj, Sem.run, h]
theorem run_setObj {P : Program} {w : World} {b : Nat} {es : Array MapEntry} {clock : Nat} {o : Obj} (h : w.heap[b]? = some (.map es clock)) : (setObj b o).run P w = .ok () { w with heap := w.heap.setIfInBounds b o } := by simp [setObj, Sem.run, h]

section
variable {K V : Type} [DecidableEq K]

def kget : List (K × V) → K → Option V
  | [], _ => none
  | p :: r, a => if p.1 = a then some p.2 else kget r a

def kput : List (K × V) → K → V → List (K × V)
  | [], a, v => [(a, v)]
  | p :: r, a, v => if p.1 = a then (a, v) :: r else p :: kput r a v

/-- The place of a key. -/
def kidx : List (K × V) → K → Nat
  | [], _ => 0
  | p :: r, a => if p.1 = a then 0 else kidx r a + 1

theorem kput_keys (l : List (K × V)) (a : K) (v : V) : (kput l a v).map (·.1) = if a ∈ l.map (·.1) then l.map (·.1) else l.map (·.1) ++ [a] := by
  induction l with
  | nil => simp [kput]
  | cons p r ih =>
    simp only [kput]
    by_cases h : p.1 = a
    · simp [h]
    · rw [if_neg h]
      simp only [List.map_cons, ih, List.mem_cons, Ne.symm h, false_or]
      split <;> simp_all

theorem kget_none {l : List (K × V)} {a : K} : kget l a = none ↔ a ∉ l.map (·.1) := by
  induction l with
  | nil => simp [kget]
  | cons p r ih =>
    simp only [kget, List.map_cons, List.mem_cons]
    by_cases h : p.1 = a
    · simp [h]
    · rw [if_neg h, ih]
      simp [Ne.symm h]

theorem kput_len (l : List (K × V)) (a : K) (v : V) : (kput l a v).length = if (kget l a).isSome then l.length else l.length + 1 := by
  induction l with
  | nil => simp [kput, kget]
  | cons p r ih =>
    simp only [kput, kget]
    by_cases h : p.1 = a
    · simp [h]
    · simp only [if_neg h, List.length_cons, ih]
      split <;> rfl

theorem kget_kput (l : List (K × V)) (a b : K) (v : V) : kget (kput l a v) b = if a = b then some v else kget l b := by
  induction l with
  | nil => simp [kput, kget]
  | cons p r ih =>
    simp only [kput, kget]
    by_cases h : p.1 = a
    · subst h
      rw [if_pos rfl]
      simp only [kget]
      split <;> rfl
    · rw [if_neg h]
      simp only [kget, ih]
      by_cases hb : p.1 = b
      · subst hb
        rw [if_pos rfl, if_pos rfl, if_neg (Ne.symm h)]
      · rw [if_neg hb, if_neg hb]

theorem kput_nodup {l : List (K × V)} {a : K} {v : V} (h : (l.map (·.1)).Nodup) : ((kput l a v).map (·.1)).Nodup := by
  rw [kput_keys]
  split
  · exact h
  · rename_i hn
    rw [List.nodup_append]
    exact ⟨h, by simp, fun x hx y hy e => by simp at hy; subst hy; subst e; exact hn hx⟩

/-- What the model asks of a key's type. -/
structure KeyLaw (P : Program) (T : TypeId) (enc : K → Value) : Prop where
  chk : ∀ e a w, (Instr.checkKey e 10000 T (enc a)).run P w = .ok () w
  und : ∃ d, P.underlying T = some d ∧ ((∀ a b, Instr.sameNow d (enc a) (enc b) = none) ∨ (∀ a b, Instr.sameNow d (enc a) (enc b) = some (decide (a = b))))
  eq : EqLaw P T enc
  same : ∀ a, Instr.sameBits 10000 (enc a) (enc a) = true

/-- The entries are the pairs of l, in order; no stamp twice, no key twice. -/
structure MapRep (enc : K → Value) (encV : V → Value) (es : Array MapEntry) (clock : Nat) (l : List (K × V)) : Prop where
  rows : es.toList.map (fun e => (e.key, e.val)) = l.map (fun p => (enc p.1, encV p.2))
  born : ∀ e ∈ es.toList, e.born < clock
  stamps : (es.toList.map (·.born)).Nodup
  keys : (l.map (·.1)).Nodup

def mapA (b : Nat) (enc : K → Value) (encV : V → Value) (l : List (K × V)) : Asn :=
  ex fun p : Array MapEntry × Nat => star [fact (MapRep enc encV p.1 p.2 l), pt b (.map p.1 p.2)]

variable {P : Program} {T : TypeId} {enc : K → Value} {encV : V → Value}

theorem MapRep.empty : MapRep enc encV #[] 0 ([] : List (K × V)) := ⟨rfl, by simp, by simp, by simp⟩

theorem MapRep.size {es : Array MapEntry} {clock : Nat} {l : List (K × V)} (h : MapRep enc encV es clock l) : es.size = l.length := by
  have := congrArg List.length h.rows
  simpa using this

theorem Holds.mapA {c : Cx} {g : Heap} {w : World} {L : List Asn} {b : Nat} {l : List (K × V)} :
    Holds c g w (Tw.mapA b enc encV l :: L) ↔ ∃ es clock, MapRep enc encV es clock l ∧ Holds c g w (pt b (.map es clock) :: L) := by
  unfold Tw.mapA
  rw [Holds.ex]
  constructor
  · rintro ⟨⟨es, clock⟩, h⟩
    rw [Holds.star] at h
    obtain ⟨h1, h2⟩ := Holds.fact.1 h
    exact ⟨es, clock, h1, h2⟩
  · rintro ⟨es, clock, h1, h2⟩
    exact ⟨(es, clock), Holds.star.2 (Holds.fact.2 ⟨h1, h2⟩)⟩

theorem findNow_case {d : TypeDesc} {a : K} : ∀ (es : List MapEntry) (l : List (K × V)) (i : Nat), es.map (fun e => (e.key, e.val)) = l.map (fun p => (enc p.1, encV p.2)) →
    (∀ a b, Instr.sameNow d (enc a) (enc b) = some (decide (a = b))) → Instr.findNow d (enc a) es i = some ((kget l a).map fun v => (i + kidx l a, encV v))
  | [], [], i, _, _ => rfl
  | [], _ :: _, _, h, _ => by simp at h
  | _ :: _, [], _, h, _ => by simp at h
  | e :: es, p :: l, i, h, hn => by
    simp only [List.map_cons, List.cons.injEq, Prod.mk.injEq] at h
    obtain ⟨⟨h1, h2⟩, h3⟩ := h
    unfold Instr.findNow
    rw [h1, hn, h2]
    by_cases hp : a = p.1
    · subst hp
      simp [kget, kidx]
    · simp only [hp, decide_false]
      rw [findNow_case es l (i + 1) h3 hn]
      simp only [kget, kidx, if_neg (Ne.symm hp)]
      cases kget l a
      · rfl
      · simp only [Option.map_some]; congr 3; omega

theorem findNow_none {d : TypeDesc} {a : K} (es : List MapEntry) (l : List (K × V)) (i : Nat) (h : es.map (fun e => (e.key, e.val)) = l.map (fun p => (enc p.1, encV p.2)))
    (hn : ∀ a b, Instr.sameNow d (enc a) (enc b) = none) : Instr.findNow d (enc a) es i = none ∨ (es = [] ∧ Instr.findNow d (enc a) es i = some none) := by
  cases es with
  | nil => exact .inr ⟨rfl, rfl⟩
  | cons e es =>
    cases l with
    | nil => simp at h
    | cons p l =>
      simp only [List.map_cons, List.cons.injEq, Prod.mk.injEq] at h
      left
      unfold Instr.findNow
      rw [h.1.1, hn]

theorem findAsking_run (hq : EqLaw P T enc) {a : K} : ∀ (es : List MapEntry) (l : List (K × V)) (i : Nat) (w : World), es.map (fun e => (e.key, e.val)) = l.map (fun p => (enc p.1, encV p.2)) →
    (Instr.findAsking T (enc a) es i).run P w = .ok ((kget l a).map fun v => (i + kidx l a, encV v)) w
  | [], [], i, w, _ => by simp [Instr.findAsking, go_sem, kget]
  | [], _ :: _, _, _, h => by simp at h
  | _ :: _, [], _, _, h => by simp at h
  | e :: es, p :: l, i, w, h => by
    simp only [List.map_cons, List.cons.injEq, Prod.mk.injEq] at h
    obtain ⟨⟨h1, h2⟩, h3⟩ := h
    have he := hq a p.1 w
    have ih := findAsking_run hq (a := a) es l (i + 1) w h3
    unfold Instr.findAsking
    rw [h1]
    simp only [Sem.run_bind, he, Result.andThen_ok]
    by_cases hp : a = p.1
    · subst hp
      simp [kget, kidx, h2]
    · simp only [hp, decide_false, Bool.false_eq_true, if_false, ih, kget, kidx, if_neg (Ne.symm hp)]
      cases kget l a
      · rfl
      · simp only [Option.map_some]; rw [show i + 1 + kidx l a = i + (kidx l a + 1) by omega]

theorem findKey_run (hl : KeyLaw P T enc) {a : K} {es : Array MapEntry} {clock : Nat} {l : List (K × V)} (h : MapRep enc encV es clock l) (w : World) :
    (Instr.findKey T (enc a) es.toList).run P w = .ok ((kget l a).map fun v => (kidx l a, encV v)) w := by
  obtain ⟨d, hd, hn⟩ := hl.und
  unfold Instr.findKey
  simp only [Sem.run_bind, run_und hd, Result.andThen_ok]
  rcases hn with hn | hn
  · rcases findNow_none es.toList l 0 h.rows hn (a := a) with e | ⟨e1, e2⟩
    · rw [e]
      simp only []
      rw [findAsking_run hl.eq es.toList l 0 w h.rows]
      simp
    · rw [e2]
      have : l = [] := by
        have := h.rows
        rw [e1] at this
        simpa using this.symm
      subst this
      simp [kget, go_sem]
  · rw [findNow_case es.toList l 0 h.rows hn]
    simp [go_sem]

variable {ρ : Operand → Value} {d : Option Nat} {ty : TypeId} {pos : String} {af : Array Edge} {gd : Option (Nat × Bool)} {w : World}

theorem x_lookupOk {MT et : TypeId} {x y : Operand} {b : Nat} {es : Array MapEntry} {clock : Nat} {l : List (K × V)} {a : K} {z : V} (hl : KeyLaw P T enc) (hT : P.underlying MT = some (.map T et)) (hz : Zr P et (encV z))
    (h : MapRep enc encV es clock l) (hx : ρ x = .map (some b)) (hb : w.heap[b]? = some (.map es clock)) (hy : ρ y = enc a) :
    (execOp ρ ⟨d, .lookup MT x y true, ty, pos, af, gd⟩).run P w = .ok (.value (.tuple #[encV ((kget l a).getD z), .bool (kget l a).isSome])) w := by
  have h1 := findKey_run hl h w (a := a)
  have h2 := hl.chk es.isEmpty a w
  have h3 := hz w
  simp only [execOp, Instr.lookup, hx, hy, Sem.run_bind, run_und hT, run_getObj hb, Result.andThen_ok, Sem.run_pure, h2, h1]
  cases kget l a <;> simp [go_sem, h3]

theorem x_lookup {MT et : TypeId} {x y : Operand} {b : Nat} {es : Array MapEntry} {clock : Nat} {l : List (K × V)} {a : K} {z : V} (hl : KeyLaw P T enc) (hT : P.underlying MT = some (.map T et)) (hz : Zr P et (encV z))
    (h : MapRep enc encV es clock l) (hx : ρ x = .map (some b)) (hb : w.heap[b]? = some (.map es clock)) (hy : ρ y = enc a) :
    (execOp ρ ⟨d, .lookup MT x y false, ty, pos, af, gd⟩).run P w = .ok (.value (encV ((kget l a).getD z))) w := by
  have h1 := findKey_run hl h w (a := a)
  have h2 := hl.chk es.isEmpty a w
  have h3 := hz w
  simp only [execOp, Instr.lookup, hx, hy, Sem.run_bind, run_und hT, run_getObj hb, Result.andThen_ok, Sem.run_pure, h2, h1]
  cases kget l a <;> simp [go_sem, h3]

theorem kidx_lt {l : List (K × V)} {a : K} {v : V} (h : kget l a = some v) : kidx l a < l.length ∧ (l[kidx l a]?).map (·.1) = some a := by
  induction l with
  | nil => simp [kget] at h
  | cons p r ih =>
    simp only [kget] at h
    simp only [kidx]
    by_cases hp : p.1 = a
    · simp [hp]
    · rw [if_neg hp] at h ⊢
      have := ih h
      simp only [List.length_cons, List.getElem?_cons_succ]
      exact ⟨by omega, this.2⟩

theorem kput_set {l : List (K × V)} {a : K} {v u : V} (h : kget l a = some u) : kput l a v = l.set (kidx l a) (a, v) := by
  induction l with
  | nil => simp [kget] at h
  | cons p r ih =>
    simp only [kget] at h
    simp only [kput, kidx]
    by_cases hp : p.1 = a
    · simp [hp]
    · rw [if_neg hp] at h ⊢
      rw [if_neg hp, ih h]
      simp

theorem kput_new {l : List (K × V)} {a : K} {v : V} (h : kget l a = none) : kput l a v = l ++ [(a, v)] := by
  induction l with
  | nil => simp [kput]
  | cons p r ih =>
    simp only [kget] at h
    by_cases hp : p.1 = a
    · rw [if_pos hp] at h; cases h
    · rw [if_neg hp] at h
      simp only [kput, if_neg hp, ih h]
      rfl

variable {f : Fr} {R : Value → World → Prop} {c : Cx} {g : Heap} {L F : List Asn}

theorem MapRep.set {es : Array MapEntry} {clock : Nat} {l : List (K × V)} {a : K} {u v : V} (h : MapRep enc encV es clock l) (hk : kget l a = some u) :
    MapRep enc encV (es.modify (kidx l a) fun e => { e with key := enc a, val := encV v }) clock (kput l a v) := by
  have hi := (kidx_lt hk).1
  rw [kput_set hk]
  have hsz : kidx l a < es.size := by rw [h.size]; exact hi
  have e1 : ∀ {β : Type} (q : MapEntry → β), (es.modify (kidx l a) fun e => { e with key := enc a, val := encV v }).toList.map q = (es.toList.map q).set (kidx l a) (q { es[kidx l a] with key := enc a, val := encV v }) := by
    intro β q
    apply List.ext_getElem
    · simp
    · intro j h1 h2
      simp only [List.getElem_map, Array.getElem_toList, Array.getElem_modify, List.getElem_set]
      by_cases hj : kidx l a = j
      · subst hj; simp
      · simp [hj]
  refine ⟨?_, ?_, ?_, ?_⟩
  · rw [e1, h.rows]
    simp [List.map_set]
  · intro e he
    have : e.born ∈ (es.modify (kidx l a) fun e => { e with key := enc a, val := encV v }).toList.map (·.born) := List.mem_map.2 ⟨e, he, rfl⟩
    rw [e1 (·.born)] at this
    have e2 : (es.toList.map (·.born)).set (kidx l a) es[kidx l a].born = es.toList.map (·.born) := by
      apply List.ext_getElem (by simp)
      intro j h1 h2
      simp only [List.getElem_set, List.getElem_map]
      split
      · rename_i hj; subst hj; simp
      · rfl
    rw [e2] at this
    obtain ⟨e', he', hb⟩ := List.mem_map.1 this
    rw [← hb]; exact h.born e' he'
  · rw [e1 (·.born)]
    have e2 : (es.toList.map (·.born)).set (kidx l a) es[kidx l a].born = es.toList.map (·.born) := by
      apply List.ext_getElem (by simp)
      intro j h1 h2
      simp only [List.getElem_set, List.getElem_map]
      split
      · rename_i hj; subst hj; simp
      · rfl
    show ((es.toList.map (·.born)).set (kidx l a) es[kidx l a].born).Nodup
    rw [e2]; exact h.stamps
  · rw [← kput_set hk]; exact kput_nodup h.keys

theorem MapRep.push {es : Array MapEntry} {clock : Nat} {l : List (K × V)} {a : K} {v : V} (h : MapRep enc encV es clock l) (hk : kget l a = none) :
    MapRep enc encV (es.push { key := enc a, val := encV v, born := clock }) (clock + 1) (kput l a v) := by
  rw [kput_new hk]
  refine ⟨by simp [h.rows], ?_, ?_, ?_⟩
  · intro e he
    simp only [Array.toList_push, List.mem_append, List.mem_singleton] at he
    rcases he with he | rfl
    · have := h.born e he; omega
    · simp
  · simp only [Array.toList_push, List.map_append, List.map_cons, List.map_nil]
    rw [List.nodup_append]
    refine ⟨h.stamps, by simp, fun x hx y hy e => ?_⟩
    simp at hy
    subst hy; subst e
    obtain ⟨e', he', hb⟩ := List.mem_map.1 hx
    have := h.born e' he'
    omega
  · rw [← kput_new hk]; exact kput_nodup h.keys

theorem run_mapUpdate {MT et : TypeId} {b : Nat} {l : List (K × V)} {a : K} {v : V} (hl : KeyLaw P T enc) (hT : P.underlying MT = some (.map T et)) (H : Holds c g w (Tw.mapA b enc encV l :: L)) :
    ∃ w', (Instr.mapUpdate MT (.map (some b)) (enc a) (encV v)).run P w = .ok () w' ∧ Holds c g w' (Tw.mapA b enc encV (kput l a v) :: L) := by
  obtain ⟨es, clock, h, H⟩ := Holds.mapA.1 H
  have hb := H.head
  have hlt : b < w.heap.size := (Array.getElem?_eq_some_iff.1 hb).1
  have h1 := findKey_run hl h w (a := a)
  have h2 := hl.chk false a w
  have turn : ∀ o', Holds c g { w with heap := w.heap.setIfInBounds b o' } (pt b o' :: L) := fun o' =>
    H.turn rfl rfl rfl (by simp [hlt]) fun i hi => by simp [Array.getElem?_setIfInBounds_ne (Ne.symm hi)]
  cases hk : kget l a with
  | some u =>
    have hsz : kidx l a < es.size := by rw [h.size]; exact (kidx_lt hk).1
    have hkey : es[kidx l a].key = enc a := by
      have := (kidx_lt hk).2
      have e1 : (es.toList.map (fun e => (e.key, e.val)))[kidx l a]? = (l.map (fun p => (enc p.1, encV p.2)))[kidx l a]? := by rw [h.rows]
      simp only [List.getElem?_map] at e1
      rw [Array.getElem?_toList, Array.getElem?_eq_getElem hsz] at e1
      cases hli : l[kidx l a]? with
      | none => rw [hli] at this; simp at this
      | some p =>
        rw [hli] at this e1
        simp at this e1
        rw [e1.1, this]
    rw [hk] at h1
    refine ⟨_, ?_, Holds.mapA.2 ⟨_, _, h.set hk (v := v), turn _⟩⟩
    have h3 := hl.same a
    simp only [Instr.mapUpdate, Sem.run_bind, run_und hT, run_getObj hb, Result.andThen_ok, Sem.run_pure, h2, h1, Option.map_some, Instr.keyThatStays, Array.getElem?_eq_getElem hsz, hkey, Option.getD_some, h3, if_true, run_setObj hb]
  | none =>
    rw [hk] at h1
    refine ⟨_, ?_, Holds.mapA.2 ⟨_, _, h.push hk (v := v), turn _⟩⟩
    simp only [Instr.mapUpdate, Sem.run_bind, run_und hT, run_getObj hb, Result.andThen_ok, Sem.run_pure, h2, h1, Option.map_none, run_setObj hb]

theorem e_mapUpdate {MT et : TypeId} {x y v : Operand} {b : Nat} {l : List (K × V)} {a : K} {u : V} (H : Holds c g w (L ++ F)) (i : Nat) (hi : L[i]? = some (Tw.mapA b enc encV l)) (hl : KeyLaw P T enc) (hT : P.underlying MT = some (.map T et))
    (hx : ev f x = .map (some b)) (hy : ev f y = enc a) (hv : ev f v = encV u) (k : ∀ w', Holds c g w' (L.set i (Tw.mapA b enc encV (kput l a u)) ++ F) → R undef w') :
    EffAt P ⟨d, .mapUpdate MT x y v, ty, pos, af, gd⟩ f w R := by
  obtain ⟨w', hr, H'⟩ := run_mapUpdate (a := a) (v := u) hl hT (H.focusF i hi)
  refine e_unit (w' := w') ?_ (k _ (Holds.unfocusF hi H'))
  simp [execOp, hx, hy, hv, go_sem, hr]

theorem e_insert {MT et : TypeId} {x y v : Operand} {b : Nat} {l : List (K × V)} {a : K} {u : V} (H : Holds c g w (L ++ F)) (i : Nat) (hi : L[i]? = some (Tw.mapA b enc encV l)) (hl : KeyLaw P T enc) (hT : P.underlying MT = some (.map T et))
    (hx : ev f x = .map (some b)) (hy : ev f y = enc a) (hv : ev f v = encV u) (k : ∀ w', Holds c g w' (L.set i (Tw.mapA b enc encV (kput l a u)) ++ F) → R undef w') :
    EffAt P ⟨d, .insert MT x y v, ty, pos, af, gd⟩ f w R := by
  obtain ⟨w', hr, H'⟩ := run_mapUpdate (a := a) (v := u) hl hT (H.focusF i hi)
  refine e_unit (w' := w') ?_ (k _ (Holds.unfocusF hi H'))
  simp [execOp, hx, hy, hv, go_sem, hr]
end
end Go.Tw
