/- A region that draws its order, and whose effects come one behind the other: the walk carries the world along, as in a region with one order. Nothing here speaks of a program. -/
import Derived.Test.YtfoginganpgmcaaGreatCoreE
set_option linter.unusedSimpArgs false
set_option linter.unusedVariables false
namespace Go.Tw
open Go

/-- The worlds behind so many effects. -/
def RS (w0 : World) (R : Nat → World → Prop) : Nat → World → Prop
  | 0, w => w = w0
  | m + 1, w => R (m + 1) w
/-- What a quiet operation must do: behind as many effects as may have come. -/
def QuietE (P : Program) (w0 : World) (R : Nat → World → Prop) (u : Nat) (o : Oper) (f : Fr) (v : Value) : Prop :=
  ∀ m, m ≤ u → Quiet P (RS w0 R m) o f v

def wpDC (P : Program) (ops : Array Oper) (w0 : World) (R : Nat → World → Prop) (ub : Nat → Nat) (eff : Nat → Bool) (Q : Fr → World → Prop) : List Nat → Nat → Fr → World → Prop
  | [], _, f, w => Q f w
  | i :: rest, m, f, w =>
    match ops[i]? with
    | none => wpDC P ops w0 R ub eff Q rest m f w
    | some o =>
      if Region.wanted o (yieldF ops f) then
        if eff i then EffAt P o f w fun v w' => R (m + 1) w' ∧ wpDC P ops w0 R ub eff Q rest (m + 1) (updO f o.dst v) w'
        else ∃ v, QuietE P w0 R (ub i) o f v ∧ wpDC P ops w0 R ub eff Q rest m (updO f o.dst v) w
      else if eff i then R (m + 1) w ∧ wpDC P ops w0 R ub eff Q rest (m + 1) (updO f o.dst undef) w
        else wpDC P ops w0 R ub eff Q rest m (updO f o.dst undef) w

section
variable {P : Program} {ops : Array Oper} {w0 : World} {R : Nat → World → Prop} {ub : Nat → Nat} {eff : Nat → Bool} {Q : Fr → World → Prop}

theorem QuietE.updO {u : Nat} {o : Oper} (hs : noSel o = true) {f : Fr} {x : Option Nat} {a v : Value} (h : ∀ d, x = some d → d ∉ o.looksAt ops) :
    QuietE P w0 R u o (updO f x a) v ↔ QuietE P w0 R u o f v :=
  ⟨fun hq m hm => (Quiet.updO hs h).1 (hq m hm), fun hq m hm => (Quiet.updO hs h).2 (hq m hm)⟩

theorem wpDC_some {i : Nat} {rest : List Nat} {m : Nat} {f : Fr} {w : World} {o : Oper} (ho : ops[i]? = some o) :
    wpDC P ops w0 R ub eff Q (i :: rest) m f w =
      (if Region.wanted o (yieldF ops f) then
        if eff i then EffAt P o f w fun v w' => R (m + 1) w' ∧ wpDC P ops w0 R ub eff Q rest (m + 1) (updO f o.dst v) w'
        else ∃ v, QuietE P w0 R (ub i) o f v ∧ wpDC P ops w0 R ub eff Q rest m (updO f o.dst v) w
      else if eff i then R (m + 1) w ∧ wpDC P ops w0 R ub eff Q rest (m + 1) (updO f o.dst undef) w
        else wpDC P ops w0 R ub eff Q rest m (updO f o.dst undef) w) := by
  conv => lhs; unfold wpDC
  rw [ho]

theorem frontC_q {i : Nat} {o : Oper} (ho : ops[i]? = some o) (hs : noSel o = true) (hie : eff i = false) {post : List Nat} :
    ∀ (pre : List Nat) (m : Nat) (f : Fr) (w : World), ApartL ops o pre → (∀ j ∈ pre, eff j = false) → wpDC P ops w0 R ub eff Q (pre ++ i :: post) m f w →
      if Region.wanted o (yieldF ops f) then ∃ v, QuietE P w0 R (ub i) o f v ∧ wpDC P ops w0 R ub eff Q (pre ++ post) m (updO f o.dst v) w else wpDC P ops w0 R ub eff Q (pre ++ post) m (updO f o.dst undef) w := by
  intro pre
  induction pre with
  | nil =>
    intro m f w _ _ h
    simp only [List.nil_append] at h ⊢
    simp only [wpDC_some ho, hie, Bool.false_eq_true, if_false] at h
    exact h
  | cons j pre ih =>
    intro m f w hap hq h
    obtain ⟨oj, hj, hjo, hsj⟩ := hap j (by simp)
    obtain ⟨a1, a2, a3⟩ := Oper.apart_spec hjo
    have hap' : ApartL ops o pre := fun x hx => hap x (by simp [hx])
    have hq' : ∀ j ∈ pre, eff j = false := fun x hx => hq x (by simp [hx])
    have q1 := hq j (by simp)
    simp only [List.cons_append] at h ⊢
    simp only [wpDC_some hj, q1, Bool.false_eq_true, if_false] at h
    simp only [wpDC_some hj, q1, Bool.false_eq_true, if_false, wanted_updO oj a3]
    by_cases hw : Region.wanted oj (yieldF ops f) = true
    · rw [if_pos hw] at h
      simp only [if_pos hw]
      obtain ⟨u, hu, h⟩ := h
      have := ih m (updO f oj.dst u) w hap' hq' h
      rw [wanted_updO o a1] at this
      by_cases hwo : Region.wanted o (yieldF ops f) = true
      · rw [if_pos hwo] at this ⊢
        obtain ⟨v, hv, h⟩ := this
        exact ⟨v, (QuietE.updO hs a1).1 hv, u, (QuietE.updO hsj a3).2 hu, by rw [updO_comm f v u (fun d hd hd' => a2 d hd' hd)]; exact h⟩
      · rw [if_neg hwo] at this ⊢
        exact ⟨u, (QuietE.updO hsj a3).2 hu, by rw [updO_comm f undef u (fun d hd hd' => a2 d hd' hd)]; exact this⟩
    · rw [if_neg hw] at h
      simp only [if_neg hw]
      have := ih m (updO f oj.dst undef) w hap' hq' h
      rw [wanted_updO o a1] at this
      by_cases hwo : Region.wanted o (yieldF ops f) = true
      · rw [if_pos hwo] at this ⊢
        obtain ⟨v, hv, h⟩ := this
        exact ⟨v, (QuietE.updO hs a1).1 hv, by rw [updO_comm f v undef (fun d hd hd' => a2 d hd' hd)]; exact h⟩
      · rw [if_neg hwo] at this ⊢
        rw [updO_comm f undef undef (fun d hd hd' => a2 d hd' hd)]; exact this

theorem frontC_e {i : Nat} {o : Oper} (ho : ops[i]? = some o) (hs : noSel o = true) (hie : eff i = true) {post : List Nat} :
    ∀ (pre : List Nat) (m : Nat) (f : Fr) (w : World), ApartL ops o pre → (∀ j ∈ pre, eff j = false) → wpDC P ops w0 R ub eff Q (pre ++ i :: post) m f w →
      if Region.wanted o (yieldF ops f) then EffAt P o f w fun v w' => R (m + 1) w' ∧ wpDC P ops w0 R ub eff Q (pre ++ post) (m + 1) (updO f o.dst v) w'
      else R (m + 1) w ∧ wpDC P ops w0 R ub eff Q (pre ++ post) (m + 1) (updO f o.dst undef) w := by
  intro pre
  induction pre with
  | nil =>
    intro m f w _ _ h
    simp only [List.nil_append] at h ⊢
    simp only [wpDC_some ho, hie, if_true] at h
    exact h
  | cons j pre ih =>
    intro m f w hap hq h
    obtain ⟨oj, hj, hjo, hsj⟩ := hap j (by simp)
    obtain ⟨a1, a2, a3⟩ := Oper.apart_spec hjo
    have hap' : ApartL ops o pre := fun x hx => hap x (by simp [hx])
    have hq' : ∀ j ∈ pre, eff j = false := fun x hx => hq x (by simp [hx])
    have q1 := hq j (by simp)
    simp only [List.cons_append] at h ⊢
    simp only [wpDC_some hj, q1, Bool.false_eq_true, if_false] at h
    simp only [wpDC_some hj, q1, Bool.false_eq_true, if_false, wanted_updO oj a3]
    by_cases hw : Region.wanted oj (yieldF ops f) = true
    · rw [if_pos hw] at h
      simp only [if_pos hw]
      obtain ⟨u, hu, h⟩ := h
      have := ih m (updO f oj.dst u) w hap' hq' h
      rw [wanted_updO o a1] at this
      by_cases hwo : Region.wanted o (yieldF ops f) = true
      · rw [if_pos hwo] at this ⊢
        exact ((EffAt.updO hs a1).1 this).mono fun v w' ⟨h1, h2⟩ => ⟨h1, u, (QuietE.updO hsj a3).2 hu, by rw [updO_comm f v u (fun d hd hd' => a2 d hd' hd)]; exact h2⟩
      · rw [if_neg hwo] at this ⊢
        exact ⟨this.1, u, (QuietE.updO hsj a3).2 hu, by rw [updO_comm f undef u (fun d hd hd' => a2 d hd' hd)]; exact this.2⟩
    · rw [if_neg hw] at h
      simp only [if_neg hw]
      have := ih m (updO f oj.dst undef) w hap' hq' h
      rw [wanted_updO o a1] at this
      by_cases hwo : Region.wanted o (yieldF ops f) = true
      · rw [if_pos hwo] at this ⊢
        exact ((EffAt.updO hs a1).1 this).mono fun v w' ⟨h1, h2⟩ => ⟨h1, by rw [updO_comm f v undef (fun d hd hd' => a2 d hd' hd)]; exact h2⟩
      · rw [if_neg hwo] at this ⊢
        rw [updO_comm f undef undef (fun d hd hd' => a2 d hd' hd)]; exact this
end

section
variable {P : Program} {N : Nat} {l : List Oper} {w0 : World} {R : Nat → World → Prop} {es : List Nat} {ub : Nat → Nat} {Q : FPost} {ord : List Nat}

/-- The effects stand in a chain; and how many of them may come ahead of each operation. -/
def chainOk (l : List Oper) (es : List Nat) (ub : Nat → Nat) : Bool :=
  let t := maskTab l l.length
  decide es.Nodup && es.all (fun e => decide (e < l.length)) && (List.range es.length).all (fun p => match es[p]?, es[p + 1]? with | some a, some b => (t.getD b 0).testBit a | _, _ => true) &&
  (List.range l.length).all fun i => match es[ub i]? with | some e => (t.getD e 0).testBit i | none => true

theorem any_of_wpDC (hok : ordOk l ord l.length es.contains = true) (hch : chainOk l es ub = true) (hN : opsOk N l = true) : ∀ (fuel : Nat) (listed : Array Bool) (m : Nat) (f : Fr) (w : World) (a : Act),
    listed.size = l.length → (ord.filter fun i => !listed.getD i true).length ≤ fuel → Down l (fun i => listed.getD i true = true) →
    wpDC P l.toArray w0 R ub es.contains (Q .normal) (ord.filter fun i => !listed.getD i true) m f w → m ≤ es.length → (∀ p e, es[p]? = some e → (listed.getD e true = true ↔ p < m)) → RS w0 R m w → Rel N f a →
    wpAny P .any l.toArray (low N Q) fuel listed a w := by
  have hok0 := hok
  unfold chainOk at hch
  simp only [Bool.and_eq_true, decide_eq_true_eq, List.all_eq_true] at hch
  obtain ⟨⟨⟨hnd0, hel⟩, hch⟩, hub⟩ := hch
  unfold ordOk at hok
  simp only [Bool.and_eq_true, List.all_eq_true, beq_iff_eq] at hok
  obtain ⟨⟨⟨⟨⟨c1, c2⟩, c0⟩, c3⟩, c4⟩, c5⟩ := hok
  have pw := ordOk_go c5
  have hmem : ∀ i, i < l.length → i ∈ ord := fun i hi => by simpa using c2 i (by simpa using hi)
  -- ord has each number once
  have hnd : ord.Nodup := pw.imp fun h => h.1
  have hlt : ∀ i ∈ ord, i < l.length := fun i hi => by simpa using c0 i hi
  have hedge : ∀ i o, l[i]? = some o → ∀ e ∈ edges o, e < l.length ∧ e ≠ i := fun i o ho e he => by
    have hi : i < l.length := (List.getElem?_eq_some_iff.1 ho).1
    have := c4 i (by simpa using hi)
    rw [ho] at this
    simp only [List.all_eq_true, Bool.and_eq_true, decide_eq_true_eq, bne_iff_ne, ne_eq] at this
    exact this e he
  -- an operation is ready just where all that it waits for is listed
  have hready : ∀ (listed : Array Bool) i o, l[i]? = some o → (i ∈ Region.ready .any l.toArray listed ↔ listed.getD i true = false ∧ ∀ e ∈ edges o, listed.getD e false = true) := fun listed i o ho => by
    have hi : i < l.length := (List.getElem?_eq_some_iff.1 ho).1
    unfold Region.ready edges
    simp only [List.mem_filter, List.mem_range, List.size_toArray, List.getElem?_toArray, ho, Option.map_some, Option.getD_some, Bool.and_eq_true, Bool.not_eq_true', Array.all_eq_true', List.mem_map, Bool.or_eq_true]
    constructor
    · rintro ⟨_, h1, h2⟩
      refine ⟨h1, ?_⟩
      rintro e ⟨x, hx, rfl⟩
      have := h2 x (by simpa using hx.1)
      rcases this with h | h
      · rw [hx.2] at h; cases h
      · exact h
    · rintro ⟨h1, h2⟩
      refine ⟨hi, h1, fun x hx => ?_⟩
      cases hb : Region.binds .any x
      · exact .inl rfl
      · exact .inr (h2 _ ⟨x, ⟨by simpa using hx, hb⟩, rfl⟩)
  have hsame : ∀ (listed : Array Bool), listed.size = l.length → ∀ e, e < l.length → listed.getD e false = listed.getD e true := fun listed hs e he => by
    simp [Array.getD_eq_getD_getElem?, Array.getElem?_eq_getElem (show e < listed.size by omega)]
  intro fuel
  induction fuel with
  | zero =>
    intro listed m f w a hsz hfu _ h _ _ _ ha
    have hnil : (ord.filter fun i => !listed.getD i true) = [] := List.length_eq_zero_iff.1 (Nat.le_zero.1 hfu)
    rw [hnil] at h
    refine ⟨?_, f, ha, h⟩
    refine List.eq_nil_iff_forall_not_mem.2 fun i hi => ?_
    have hi0 : i < l.length := by unfold Region.ready at hi; simp at hi; exact hi.1
    obtain ⟨o, ho⟩ : ∃ o, l[i]? = some o := ⟨_, List.getElem?_eq_getElem hi0⟩
    have := ((hready listed i o ho).1 hi).1
    have : i ∈ (ord.filter fun i => !listed.getD i true) := List.mem_filter.2 ⟨hmem i hi0, by rw [this]; rfl⟩
    rw [hnil] at this
    cases this
  | succ fuel ih =>
    intro listed m f w a hsz hfu hdown h hmle hE hR ha
    constructor
    · intro hr
      cases ht : (ord.filter fun i => !listed.getD i true) with
      | nil => rw [ht] at h; exact ⟨f, ha, h⟩
      | cons i rest =>
        exfalso
        have hi : i ∈ (ord.filter fun i => !listed.getD i true) := by rw [ht]; simp
        obtain ⟨hi1, hi2⟩ := List.mem_filter.1 hi
        have hil : listed.getD i true = false := by simpa using hi2
        obtain ⟨o, ho⟩ : ∃ o, l[i]? = some o := ⟨_, List.getElem?_eq_getElem (hlt i hi1)⟩
        have : i ∈ Region.ready .any l.toArray listed := (hready listed i o ho).2 ⟨hil, fun e he => by
          rw [hsame listed hsz e (hedge i o ho e he).1]
          cases hel : listed.getD e true with
          | true => rfl
          | false =>
            exfalso
            have hem : e ∈ (ord.filter fun i => !listed.getD i true) := List.mem_filter.2 ⟨hmem e (hedge i o ho e he).1, by rw [hel]; rfl⟩
            rw [ht] at hem
            rcases List.mem_cons.1 hem with rfl | hem
            · exact (hedge _ o ho _ he).2 rfl
            · have pw' : (i :: rest).Pairwise (OrdR l (maskTab l l.length) l.toArray l.length es.contains) := by rw [← ht]; exact pw.filter _
              obtain ⟨_, oi, oj, h1, h2, h3, _⟩ := (List.pairwise_cons.1 pw').1 e hem
              rw [ho] at h1
              cases h1
              exact h3 he⟩
        rw [hr] at this
        cases this
    · intro i hir
      have hi0 : i < l.length := by have := hir; unfold Region.ready at this; simp at this; exact this.1
      obtain ⟨o, ho⟩ : ∃ o, l[i]? = some o := ⟨_, List.getElem?_eq_getElem hi0⟩
      obtain ⟨hil, hie⟩ := (hready listed i o ho).1 hir
      have hitodo : i ∈ (ord.filter fun i => !listed.getD i true) := List.mem_filter.2 ⟨hmem i hi0, by rw [hil]; rfl⟩
      obtain ⟨pre, post, hsplit⟩ := List.append_of_mem hitodo
      have hndt : (pre ++ i :: post).Nodup := by rw [← hsplit]; exact hnd.filter _
      have pw' : (pre ++ i :: post).Pairwise (OrdR l (maskTab l l.length) l.toArray l.length es.contains) := by rw [← hsplit]; exact pw.filter _
      have hprei : ∀ j ∈ pre, ∃ oj, l[j]? = some oj ∧ oj.apart l.toArray o = true ∧ (i = l.length ∨ (es.contains j = false ∧ j ≠ l.length)) := fun j hj => by
        obtain ⟨_, oj, oi, h1, h2, _, h4⟩ := (List.pairwise_append.1 pw').2.2 j hj i (by simp)
        rw [ho] at h2
        cases h2
        refine ⟨oj, h1, ?_⟩
        rcases h4 with h4 | h4
        · exfalso
          have hjl : listed.getD j true = true := mask_down hdown l.length i hi0 o ho (fun e he => by rw [← hsame listed hsz e (hedge i o ho e he).1]; exact hie e he) j h4
          have : j ∈ (ord.filter fun i => !listed.getD i true) := by rw [hsplit]; simp [hj]
          have := (List.mem_filter.1 this).2
          rw [hjl] at this
          cases this
        · exact h4
      have hnosel : ∀ j oj, l[j]? = some oj → noSel oj = true := fun j oj hj => c3 oj (List.mem_of_getElem? hj)
      have hapl : ApartL l.toArray o pre := fun j hj => by
        obtain ⟨oj, h1, h2, _⟩ := hprei j hj
        exact ⟨oj, by simpa using h1, h2, hnosel j oj h1⟩
      have hoN : opOk N o := opsOk_mem hN o (List.mem_of_getElem? ho)
      have hoa : l.toArray[i]? = some o := by simpa using ho
      -- what is left behind it
      have hset : (ord.filter fun x => !(listed.setIfInBounds i true).getD x true) = pre ++ post := by
        have e1 : (ord.filter fun x => !(listed.setIfInBounds i true).getD x true) = (ord.filter fun i => !listed.getD i true).filter (fun x => x != i) := by
          rw [List.filter_filter]
          refine List.filter_congr fun x hx => ?_
          by_cases hxi : x = i
          · subst hxi
            simp [Array.getD_eq_getD_getElem?, show x < listed.size by omega]
          · simp [Array.getD_eq_getD_getElem?, Array.getElem?_setIfInBounds_ne (Ne.symm hxi), hxi]
        rw [e1, hsplit]
        exact todo_split (fun x _ => by simp) hndt
      have hlen : (pre ++ post).length ≤ fuel := by
        have : (pre ++ i :: post).length ≤ fuel + 1 := by rw [← hsplit]; exact hfu
        simp at this ⊢; omega
      have hdown' : Down l (fun x => (listed.setIfInBounds i true).getD x true = true) := fun j oj hj hjl e he => by
        by_cases hei : e = i
        · subst hei; simp [Array.getD_eq_getD_getElem?, show e < listed.size by omega]
        · have hl : listed.getD e true = true := by
            by_cases hji : j = i
            · subst hji
              rw [ho] at hj
              cases hj
              rw [← hsame listed hsz e (hedge _ o ho e he).1]
              exact hie e he
            · refine hdown j oj hj ?_ e he
              simpa [Array.getD_eq_getD_getElem?, Array.getElem?_setIfInBounds_ne (Ne.symm hji)] using hjl
          simpa [Array.getD_eq_getD_getElem?, Array.getElem?_setIfInBounds_ne (Ne.symm hei)] using hl
      have next : ∀ m' f' w' a', wpDC P l.toArray w0 R ub es.contains (Q .normal) (pre ++ post) m' f' w' → m' ≤ es.length → (∀ p e, es[p]? = some e → ((listed.setIfInBounds i true).getD e true = true ↔ p < m')) → RS w0 R m' w' → Rel N f' a' →
          wpAny P .any l.toArray (low N Q) fuel (listed.setIfInBounds i true) a' w' := fun m' f' w' a' h' hml' hE' hR' ha' =>
        ih _ m' f' w' a' (by simpa using hsz) (by rw [hset]; exact hlen) hdown' (by rw [hset]; exact h') hml' hE' hR' ha'
      have hself : (listed.setIfInBounds i true).getD i true = true := by simp [Array.getD_eq_getD_getElem?, show i < listed.size by omega]
      have hoth : ∀ e, e ≠ i → (listed.setIfInBounds i true).getD e true = listed.getD e true := fun e hei => by
        simp [Array.getD_eq_getD_getElem?, Array.getElem?_setIfInBounds_ne (Ne.symm hei)]
      rw [hsplit] at h
      unfold wpOp
      rw [hoa]
      simp only []
      rw [ha.yielded]
      have hq : ∀ j ∈ pre, es.contains j = false := fun j hj => by
        obtain ⟨oj, _, _, h3⟩ := hprei j hj
        exact (h3.resolve_left (by omega)).1
      cases he : es.contains i with
      | false =>
        have hE2 : ∀ p e, es[p]? = some e → ((listed.setIfInBounds i true).getD e true = true ↔ p < m) := fun p e hp => by
          have hei : e ≠ i := fun hh => by
            subst hh
            have : e ∈ es := List.mem_of_getElem? hp
            simp [this] at he
          rw [hoth e hei]; exact hE p e hp
        have h1 := frontC_q hoa (hnosel i o ho) he pre m f w hapl hq h
        by_cases hw : Region.wanted o (yieldF l.toArray f) = true
        · rw [if_pos hw] at h1 ⊢
          obtain ⟨v, hv, h1⟩ := h1
          refine .inl ?_
          unfold Oper.wp
          have hmu : m ≤ ub i := by
            rcases Nat.lt_or_ge (ub i) m with hlt | hge
            · exfalso
              have hb := hub i (by simpa using hi0)
              cases hee : es[ub i]? with
              | none =>
                have hlen2 : es.length ≤ ub i := List.getElem?_eq_none_iff.1 hee
                omega
              | some e =>
                rw [hee] at hb
                have hle : listed.getD e true = true := (hE (ub i) e hee).2 hlt
                have he1 : e < l.length := hel e (List.mem_of_getElem? hee)
                obtain ⟨oe, hoe⟩ : ∃ o, l[e]? = some o := ⟨_, List.getElem?_eq_getElem he1⟩
                have := mask_down hdown l.length e he1 oe hoe (fun x hx => hdown e oe hoe hle x hx) i hb
                rw [hil] at this
                cases this
            · exact hge
          have := hv m hmu w hR
          unfold runF at this
          rw [ha.eval]
          rcases this with e | ⟨e, rfl⟩ <;> rw [e]
          · exact next _ _ _ _ h1 hmle hE2 hR (ha.put _ _ hoN)
          · exact next _ _ _ _ h1 hmle hE2 hR (ha.put _ _ hoN)
        · rw [if_neg hw] at h1 ⊢
          exact next _ _ _ _ h1 hmle hE2 hR (ha.put _ _ hoN)
      | true =>
        obtain ⟨p, hp⟩ : ∃ p, es[p]? = some i := by
          have : i ∈ es := by simpa using he
          obtain ⟨p, hp, hpe⟩ := List.mem_iff_getElem.1 this
          exact ⟨p, by rw [List.getElem?_eq_getElem hp, hpe]⟩
        have hpm : p = m := by
          have h3 : ¬ p < m := fun h => by have := (hE p i hp).2 h; rw [hil] at this; cases this
          rcases Nat.eq_zero_or_pos p with h0 | h0
          · rcases Nat.eq_zero_or_pos m with hm0 | hm0
            · omega
            · omega
          · obtain ⟨p', rfl⟩ : ∃ p', p = p' + 1 := ⟨p - 1, by omega⟩
            have hpl : p' + 1 < es.length := (List.getElem?_eq_some_iff.1 hp).1
            have hc := hch p' (by simp; omega)
            rw [List.getElem?_eq_getElem (show p' < es.length by omega), hp] at hc
            simp only at hc
            have := mask_down hdown l.length i hi0 o ho (fun x hx => by rw [← hsame listed hsz x (hedge i o ho x hx).1]; exact hie x hx) _ hc
            have := (hE p' _ (List.getElem?_eq_getElem (show p' < es.length by omega))).1 this
            omega
        have hmle2 : m + 1 ≤ es.length := by have := (List.getElem?_eq_some_iff.1 hp).1; omega
        have hE2 : ∀ p' e, es[p']? = some e → ((listed.setIfInBounds i true).getD e true = true ↔ p' < m + 1) := fun p' e hp' => by
          by_cases hei : e = i
          · subst hei
            have : p' = p := by
              have h4 := (List.getElem?_eq_some_iff.1 hp').1
              have h5 := (List.getElem?_eq_some_iff.1 hp).1
              have h6 : es[p'] = es[p] := by rw [(List.getElem?_eq_some_iff.1 hp').2, (List.getElem?_eq_some_iff.1 hp).2]
              have hpw := List.pairwise_iff_getElem.1 hnd0
              rcases Nat.lt_trichotomy p' p with h | h | h
              · exact absurd h6 (hpw p' p h4 h5 h)
              · exact h
              · exact absurd h6.symm (hpw p p' h5 h4 h)
            simp [hself]; omega
          · rw [hoth e hei, hE p' e hp']
            have : p' ≠ p := fun hh => hei (by subst hh; rw [hp] at hp'; exact (Option.some.inj hp').symm)
            omega
        have h1 := frontC_e hoa (hnosel i o ho) he pre m f w hapl hq h
        by_cases hw : Region.wanted o (yieldF l.toArray f) = true
        · rw [if_pos hw] at h1 ⊢
          exact .inl (EffAt.wp ha h1 fun v w' ⟨hr', hv⟩ => next _ _ _ _ hv hmle2 hE2 hr' (ha.put _ _ hoN))
        · rw [if_neg hw] at h1 ⊢
          exact next _ _ _ _ h1.2 hmle2 hE2 h1.1 (ha.put _ _ hoN)

theorem Holds.to {c : Cx} {g : Heap} {w w1 : World} {L : List Asn} (H : Holds c g w L) (h : w1 = { w with drawn := w.drawn + 1 }) : Holds c g w1 L := by
  subst h; exact H.drew _

/-- A REGION THAT DRAWS ITS ORDER, with its effects in a chain. -/
theorem wpF_drawC (ord es ubl : List Nat) (R : Nat → World → Prop) {id : Nat} {f : Fr} {w : World} (hm : P.follows .mixedOrders = true)
    (hok2 : (ordOk l ord l.length es.contains && chainOk l es (fun i => ubl.getD i 0)) = true) (hN : opsOk N l = true)
    (h0 : ∀ w1, w1 = { w with drawn := w.drawn + 1 } → wpDC P l.toArray w1 R (fun i => ubl.getD i 0) es.contains (Q .normal) ord 0 f w1) : wpF P N (.region id l.toArray true) Q f w := by
  intro a ha
  have h := h0 _ rfl
  obtain ⟨hok, hch⟩ := Bool.and_eq_true_iff.1 hok2
  refine wp_region_any hm ?_
  have hall : (ord.filter fun i => !(Array.replicate l.toArray.size false).getD i true) = ord := by
    refine List.filter_eq_self.2 fun i hi => ?_
    have hok' := hok
    unfold ordOk at hok'
    simp only [Bool.and_eq_true, List.all_eq_true, beq_iff_eq] at hok'
    obtain ⟨⟨⟨⟨⟨_, _⟩, c0⟩, _⟩, _⟩, _⟩ := hok'
    have : i < l.length := by simpa using c0 i hi
    simp [Array.getD_eq_getD_getElem?, this]
  refine any_of_wpDC (R := R) hok hch hN _ _ 0 f _ a (by simp) ?_ ?_ ?_ (Nat.zero_le _) (fun p e hp => ?_) rfl ha
  · rw [hall]
    have hok' := hok
    unfold ordOk at hok'
    simp only [Bool.and_eq_true, beq_iff_eq] at hok'
    rw [hok'.1.1.1.1.1]; simp
  · intro j o hj hjl
    have hj0 : j < l.length := (List.getElem?_eq_some_iff.1 hj).1
    simp [Array.getD_eq_getD_getElem?, hj0] at hjl
  · rw [hall]; exact h
  · have he : e < l.length := by
      unfold chainOk at hch
      simp only [Bool.and_eq_true, decide_eq_true_eq, List.all_eq_true] at hch
      exact hch.1.1.2 e (List.mem_of_getElem? hp)
    simp [Array.getD_eq_getD_getElem?, he]
end

/-- What stands behind at most so many effects. -/
def RH (K : Nat) (c : Cx) (L : List Asn) (m : Nat) (w : World) : Prop := m ≤ K → Has c w L

section
variable {P : Program} {ops : Array Oper} {w0 : World} {R : Nat → World → Prop} {ub : Nat → Nat} {eff : Nat → Bool} {Q : Fr → World → Prop} {f : Fr} {w : World} {i d m : Nat} {rest : List Nat} {op : Op} {ty : TypeId} {pos : String} {af : Array Edge} {gd : Option (Nat × Bool)}

theorem wpDC_nil (h : Q f w) : wpDC P ops w0 R ub eff Q [] m f w := h
/-- A quiet one, ahead of all effects. -/
theorem wpDC_e {v : Value} (ho : ops[i]? = some ⟨some d, op, ty, pos, af, gd⟩) (hw : Region.wanted ⟨some d, op, ty, pos, af, gd⟩ (yieldF ops f) = true) (he : eff i = false) (hy : ub i = 0)
    (hq : (execOp (ev f) ⟨some d, op, ty, pos, af, gd⟩).run P w0 = .ok (.value v) w0) (h : wpDC P ops w0 R ub eff Q rest m (upd f d v) w) : wpDC P ops w0 R ub eff Q (i :: rest) m f w := by
  rw [wpDC_some ho, if_pos hw, if_neg (by rw [he]; simp)]
  refine ⟨v, ?_, h⟩
  intro k hk w hw
  rw [hy] at hk
  cases Nat.le_zero.1 hk
  exact .inl (by cases hw; exact hq)
/-- A quiet one that looks at no memory. -/
theorem wpDC_q {v : Value} (ho : ops[i]? = some ⟨some d, op, ty, pos, af, gd⟩) (hw : Region.wanted ⟨some d, op, ty, pos, af, gd⟩ (yieldF ops f) = true) (he : eff i = false)
    (hq : ∀ w, (execOp (ev f) ⟨some d, op, ty, pos, af, gd⟩).run P w = .ok (.value v) w) (h : wpDC P ops w0 R ub eff Q rest m (upd f d v) w) : wpDC P ops w0 R ub eff Q (i :: rest) m f w := by
  rw [wpDC_some ho, if_pos hw, if_neg (by rw [he]; simp)]
  exact ⟨v, fun k hk w hw => .inl (hq w), h⟩
/-- One that looks at memory that stands behind as many effects as may come ahead of it. -/
theorem wpDC_h {v : Value} {K u : Nat} {c : Cx} {L : List Asn} (ho : ops[i]? = some ⟨some d, op, ty, pos, af, gd⟩) (hw : Region.wanted ⟨some d, op, ty, pos, af, gd⟩ (yieldF ops f) = true) (he : eff i = false) (hu : ub i = u) (hK : Nat.ble u K = true) (h0 : Has c w0 L)
    (hq : ∀ w, Has c w L → (execOp (ev f) ⟨some d, op, ty, pos, af, gd⟩).run P w = .ok (.value v) w) (h : wpDC P ops w0 (RH K c L) ub eff Q rest m (upd f d v) w) : wpDC P ops w0 (RH K c L) ub eff Q (i :: rest) m f w := by
  rw [wpDC_some ho, if_pos hw, if_neg (by rw [he]; simp)]
  refine ⟨v, fun k hk w hw => .inl (hq w ?_), h⟩
  rw [hu] at hk
  cases k with
  | zero => cases hw; exact h0
  | succ k => exact hw (Nat.le_trans hk (Nat.le_of_ble_eq_true hK))
theorem wpDC_not (ho : ops[i]? = some ⟨some d, op, ty, pos, af, gd⟩) (hw : Region.wanted ⟨some d, op, ty, pos, af, gd⟩ (yieldF ops f) = false) (he : eff i = false) (h : wpDC P ops w0 R ub eff Q rest m (upd f d undef) w) : wpDC P ops w0 R ub eff Q (i :: rest) m f w := by
  rw [wpDC_some ho, if_neg (by rw [hw]; simp), if_neg (by rw [he]; simp)]
  exact h
theorem wpDC_not0 (ho : ops[i]? = some ⟨none, op, ty, pos, af, gd⟩) (hw : Region.wanted ⟨none, op, ty, pos, af, gd⟩ (yieldF ops f) = false) (he : eff i = false) (h : wpDC P ops w0 R ub eff Q rest m f w) : wpDC P ops w0 R ub eff Q (i :: rest) m f w := by
  rw [wpDC_some ho, if_neg (by rw [hw]; simp), if_neg (by rw [he]; simp)]
  exact h
theorem wpDC_notE (ho : ops[i]? = some ⟨some d, op, ty, pos, af, gd⟩) (hw : Region.wanted ⟨some d, op, ty, pos, af, gd⟩ (yieldF ops f) = false) (he : eff i = true) (hr : R (m + 1) w) (h : wpDC P ops w0 R ub eff Q rest (m + 1) (upd f d undef) w) : wpDC P ops w0 R ub eff Q (i :: rest) m f w := by
  rw [wpDC_some ho, if_neg (by rw [hw]; simp), if_pos he]
  exact ⟨hr, h⟩
theorem wpDC_notE0 (ho : ops[i]? = some ⟨none, op, ty, pos, af, gd⟩) (hw : Region.wanted ⟨none, op, ty, pos, af, gd⟩ (yieldF ops f) = false) (he : eff i = true) (hr : R (m + 1) w) (h : wpDC P ops w0 R ub eff Q rest (m + 1) f w) : wpDC P ops w0 R ub eff Q (i :: rest) m f w := by
  rw [wpDC_some ho, if_neg (by rw [hw]; simp), if_pos he]
  exact ⟨hr, h⟩
theorem wpDC_eff (ho : ops[i]? = some ⟨some d, op, ty, pos, af, gd⟩) (hw : Region.wanted ⟨some d, op, ty, pos, af, gd⟩ (yieldF ops f) = true) (he : eff i = true)
    (h : EffAt P ⟨some d, op, ty, pos, af, gd⟩ f w fun v w' => R (m + 1) w' ∧ wpDC P ops w0 R ub eff Q rest (m + 1) (upd f d v) w') : wpDC P ops w0 R ub eff Q (i :: rest) m f w := by
  rw [wpDC_some ho, if_pos hw, if_pos he]; exact h
theorem wpDC_eff0 (ho : ops[i]? = some ⟨none, op, ty, pos, af, gd⟩) (hw : Region.wanted ⟨none, op, ty, pos, af, gd⟩ (yieldF ops f) = true) (he : eff i = true)
    (h : EffAt P ⟨none, op, ty, pos, af, gd⟩ f w fun _ w' => R (m + 1) w' ∧ wpDC P ops w0 R ub eff Q rest (m + 1) f w') : wpDC P ops w0 R ub eff Q (i :: rest) m f w := by
  rw [wpDC_some ho, if_pos hw, if_pos he]; exact h
/-- An effect that must be counted as one, though it only reads. -/
theorem wpDC_r {v : Value} (ho : ops[i]? = some ⟨some d, op, ty, pos, af, gd⟩) (hw : Region.wanted ⟨some d, op, ty, pos, af, gd⟩ (yieldF ops f) = true) (he : eff i = true)
    (hq : (execOp (ev f) ⟨some d, op, ty, pos, af, gd⟩).run P w = .ok (.value v) w) (hr : R (m + 1) w) (h : wpDC P ops w0 R ub eff Q rest (m + 1) (upd f d v) w) : wpDC P ops w0 R ub eff Q (i :: rest) m f w := by
  refine wpDC_eff ho hw he ?_
  unfold EffAt runF
  rw [hq]
  exact ⟨hr, h⟩
theorem wpDC_split {l : List Nat} {b : Bool} (t : Nat) (hb : f t = .bool b) (h1 : b = true → wpDC P ops w0 R ub eff Q l m (upd f t (.bool true)) w) (h2 : b = false → wpDC P ops w0 R ub eff Q l m (upd f t (.bool false)) w) : wpDC P ops w0 R ub eff Q l m f w := by
  cases b
  · have := h2 rfl; rwa [upd_id hb] at this
  · have := h1 rfl; rwa [upd_id hb] at this
end

/-- A loop of so many rounds, and one test more. -/
def wpLoop (P : Program) (N : Nat) (c : Code) (Q : FPost) : Nat → Fr → World → Prop
  | 0, f, w => wpF P N c (thenF (fun _ _ => False) Q) f w
  | n + 1, f, w => wpF P N c (thenF (wpLoop P N c Q n) Q) f w
theorem wpF_unroll {P : Program} {N : Nat} {c : Code} {Q : FPost} {f : Fr} {w : World} (n : Nat) (h : wpLoop P N c Q n f w) : wpF P N (.loop c) Q f w := by
  refine wpF_loop (fun m f w => wpLoop P N c Q m f w) n h fun m f w hm => ?_
  cases m with
  | zero => exact wpF_mono hm fun e f w q => by cases e <;> first | exact q.elim | exact q
  | succ m => exact wpF_mono hm fun e f w q => by cases e <;> first | exact ⟨m, by omega, q⟩ | exact q
theorem wpLoop_s {P : Program} {N : Nat} {c : Code} {Q : FPost} {f : Fr} {w : World} {n : Nat} (h : wpF P N c (thenF (wpLoop P N c Q n) Q) f w) : wpLoop P N c Q (n + 1) f w := h
theorem wpLoop_0 {P : Program} {N : Nat} {c : Code} {Q : FPost} {f : Fr} {w : World} (h : wpF P N c (thenF (fun _ _ => False) Q) f w) : wpLoop P N c Q 0 f w := h
/-- A walk in two parts: what holds in between. -/
theorem wpF_cut {P : Program} {N : Nat} {x : Code} {Q : FPost} {f : Fr} {w : World} (M : Fr → World → Prop) (h1 : wpF P N x (thenF M Q) f w) (h2 : ∀ f w, M f w → Q .normal f w) : wpF P N x Q f w :=
  wpF_mono h1 fun e f w h => by
    cases e with
    | normal => exact h2 f w h
    | exit id => exact h
    | goto l => exact h
    | ret => exact h
    | panic ch => exact h
    | outgrown => exact h
theorem wpO_is {P : Program} {N : Nat} {ops : Array Oper} {Q : FPost} {l : List Oper} {f : Fr} {w : World} {b z : Bool} (t : Nat) (hb : f t = .bool b) (he : b = z) (h : wpO P N ops Q l (upd f t (.bool z)) w) : wpO P N ops Q l f w := by
  subst he; rwa [upd_id hb] at h
theorem wpDC_is {P : Program} {ops : Array Oper} {w0 : World} {R : Nat → World → Prop} {ub : Nat → Nat} {eff : Nat → Bool} {Q : Fr → World → Prop} {l : List Nat} {m : Nat} {f : Fr} {w : World} {b z : Bool} (t : Nat) (hb : f t = .bool b) (he : b = z) (h : wpDC P ops w0 R ub eff Q l m (upd f t (.bool z)) w) : wpDC P ops w0 R ub eff Q l m f w := by
  subst he; rwa [upd_id hb] at h
theorem wpF_condT {P : Program} {N : Nat} {Q : FPost} {f : Fr} {w : World} {c : Operand} {x y : Code} {b : Bool} (hc : ev f c = .bool b) (he : b = true) (h : wpF P N x Q f w) : wpF P N (.cond c x y) Q f w := by
  subst he; exact wpF_true hc h
theorem wpF_condF {P : Program} {N : Nat} {Q : FPost} {f : Fr} {w : World} {c : Operand} {x y : Code} {b : Bool} (hc : ev f c = .bool b) (he : b = false) (h : wpF P N y Q f w) : wpF P N (.cond c x y) Q f w := by
  subst he; exact wpF_false hc h
end Go.Tw
