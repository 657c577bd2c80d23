/- A region that draws its order: one walk in the order of the text serves every order, where its effects come one behind the other (but for one that may float), and all else only reads what the effects leave alone. -/
import Derived.Test.YtfoginganpgmcaaGreatCoreB
set_option linter.unusedSimpArgs false
set_option linter.unusedVariables false
namespace Go.Tw
open Go

def runF (P : Program) (o : Oper) (f : Fr) (w : World) : Result Next := (execOp (ev f) o).run P w

/-- One value, in every world of the class; the world is left as it was. -/
def Quiet (P : Program) (R : World → Prop) (o : Oper) (f : Fr) (v : Value) : Prop := ∀ w, R w → runF P o f w = .ok (.value v) w ∨ (runF P o f w = .ok .skip w ∧ v = undef)

/-- An operation that does something: what it yields, and the world that it leaves. -/
def EffAt (P : Program) (o : Oper) (f : Fr) (w : World) (T : Value → World → Prop) : Prop :=
  match runF P o f w with
  | .ok (.value v) w' => T v w'
  | .ok .skip w' => T undef w'
  | .ok (.enter k args) w' => Calls P k args w' (Ret T)
  | _ => False

theorem EffAt.some {P : Program} {o : Oper} {f : Fr} {w : World} {T : Value → World → Prop} (h : EffAt P o f w T) : ∃ v w', T v w' := by
  unfold EffAt at h
  split at h
  · exact ⟨_, _, h⟩
  · exact ⟨_, _, h⟩
  · obtain ⟨e, w', fr, ⟨v, _, hv⟩, _⟩ := h []
    exact ⟨v, w', hv⟩
  · exact h.elim

theorem EffAt.mono {P : Program} {o : Oper} {f : Fr} {w : World} {T T' : Value → World → Prop} (h : EffAt P o f w T) (ht : ∀ v w', T v w' → T' v w') : EffAt P o f w T' := by
  unfold EffAt at *
  split at h
  · exact ht _ _ h
  · exact ht _ _ h
  · exact Calls.mono h (Ret.mono ht)
  · exact h.elim

theorem EffAt.wp {P : Program} {N : Nat} {o : Oper} {f : Fr} {a : Act} {w : World} {T : Value → World → Prop} {K : Act → World → Prop} {Q : Exit → Act → World → Prop} (ha : Rel N f a)
    (h : EffAt P o f w T) (hk : ∀ v w', T v w' → K (a.put o.dst v) w') : o.wp P a w K Q := by
  unfold EffAt runF at h
  unfold Oper.wp
  rw [ha.eval]
  split at h
  · rename_i he; rw [he]; exact hk _ _ h
  · rename_i he; rw [he]; exact hk _ _ h
  · rename_i he; rw [he]
    refine Calls.mono h fun e w'' ⟨v, he', hv⟩ => ?_
    subst he'
    exact hk _ _ hv
  · exact h.elim

/-- The walk in an order of our own choosing (one that the edges allow). k: the operation that may float (none: a number that no operation has); eff: the effects; r, vs: what they yielded so far. -/
def wpDF (P : Program) (ops : Array Oper) (R : World → Prop) (S : Option Value → List Value → World → Prop) (k : Nat) (eff : Nat → Bool) (Q : Fr → World → Prop) :
    List Nat → Fr → Option Value → List Value → Prop
  | [], f, r, vs => ∀ w, S r vs w → Q f w
  | i :: rest, f, r, vs =>
    match ops[i]? with
    | none => wpDF P ops R S k eff Q rest f r vs
    | some o =>
      if Region.wanted o (yieldF ops f) then
        if i = k then (∀ vs' w, S none vs' w → EffAt P o f w fun v w' => S (some v) vs' w') ∧ ∀ x, (∃ vs' w, S (some x) vs' w) → wpDF P ops R S k eff Q rest (updO f o.dst x) (some x) vs
        else if eff i then (∀ r' w, (r.isSome = true → r' = r) → S r' vs w → EffAt P o f w fun v w' => S r' (vs ++ [v]) w') ∧
          ∀ v, (∃ r' w, S r' (vs ++ [v]) w) → wpDF P ops R S k eff Q rest (updO f o.dst v) r (vs ++ [v])
        else ∃ v, Quiet P R o f v ∧ wpDF P ops R S k eff Q rest (updO f o.dst v) r vs
      else wpDF P ops R S k eff Q rest (updO f o.dst undef) r vs

/-! ### slots that an operation does not look at -/

theorem updO_comm (f : Fr) {x y : Option Nat} (v u : Value) (h : ∀ d, x = some d → y ≠ some d) : updO (updO f x v) y u = updO (updO f y u) x v := by
  cases x with
  | none => rfl
  | some d =>
    cases y with
    | none => rfl
    | some e =>
      have hne : e ≠ d := fun he => h d rfl (by rw [he])
      funext t
      simp only [updO, upd]
      by_cases h1 : t = e
      · subst h1; simp [beq_no hne]
      · simp [beq_no h1]

theorem ev_updO {f : Fr} {x : Option Nat} {v : Value} {y : Operand} (h : ∀ d, x = some d → y ≠ .tmp d) : ev (updO f x v) y = ev f y := by
  cases x with
  | none => rfl
  | some d =>
    cases y with
    | tmp t => exact upd_ne _ _ fun e => h d rfl (by rw [e])
    | const v => rfl
    | global g => rfl
    | func g => rfl

def noSel (o : Oper) : Bool := match o.op with | .select .. => false | _ => true
theorem noSel_spec {o : Oper} (h : noSel o = true) : ∀ cs b, o.op ≠ .select cs b := fun cs b e => by simp [noSel, e] at h

theorem runF_updO {P : Program} {ops : Array Oper} (o : Oper) (hs : noSel o = true) {f : Fr} {x : Option Nat} {v : Value} (h : ∀ d, x = some d → d ∉ o.looksAt ops) (w : World) :
    runF P o (updO f x v) w = runF P o f w := by
  unfold runF
  rw [execOp_congr o (noSel_spec hs) fun y hy => ?_]
  refine ev_updO fun d hd e => h d hd ?_
  subst e
  unfold Oper.looksAt
  simp only [List.mem_append, List.mem_filterMap]
  exact .inl ⟨.tmp d, by simpa using hy, rfl⟩

theorem wanted_updO {ops : Array Oper} (o : Oper) {f : Fr} {x : Option Nat} {v : Value} (h : ∀ d, x = some d → d ∉ o.looksAt ops) :
    Region.wanted o (yieldF ops (updO f x v)) = Region.wanted o (yieldF ops f) := by
  cases hg : o.guard with
  | none => simp [Region.wanted, hg]
  | some jw =>
    obtain ⟨j, want⟩ := jw
    have : yieldF ops (updO f x v) j = yieldF ops f j := by
      unfold yieldF
      cases hd : (ops[j]?).bind (·.dst) with
      | none => rfl
      | some d =>
        have hne : ∀ d', x = some d' → d ≠ d' := fun d' hd' e => h d' hd' (by
          subst e
          unfold Oper.looksAt
          rw [hg]
          simp [hd])
        have : updO f x v d = f d := by
          cases x with
          | none => rfl
          | some d' => exact upd_ne _ _ (hne d' rfl)
        simp only [this]
    simp [Region.wanted, hg, this]

theorem EffAt.updO {P : Program} {ops : Array Oper} {o : Oper} (hs : noSel o = true) {f : Fr} {x : Option Nat} {v : Value} (h : ∀ d, x = .some d → d ∉ o.looksAt ops) {w : World} {T : Value → World → Prop} :
    EffAt P o (updO f x v) w T ↔ EffAt P o f w T := by
  unfold EffAt
  rw [runF_updO (ops := ops) o hs h w]

theorem Quiet.updO {P : Program} {ops : Array Oper} {R : World → Prop} {o : Oper} (hs : noSel o = true) {f : Fr} {x : Option Nat} {u v : Value} (h : ∀ d, x = some d → d ∉ o.looksAt ops) :
    Quiet P R o (updO f x u) v ↔ Quiet P R o f v := by
  unfold Quiet
  constructor
  · intro hq w hw; have := hq w hw; rwa [runF_updO (ops := ops) o hs h w] at this
  · intro hq w hw; rw [runF_updO (ops := ops) o hs h w]; exact hq w hw

section
variable {P : Program} {ops : Array Oper} {R : World → Prop} {S : Option Value → List Value → World → Prop} {k : Nat} {eff : Nat → Bool} {Q : Fr → World → Prop}

theorem wpDF_some {i : Nat} {rest : List Nat} {f : Fr} {r : Option Value} {vs : List Value} {o : Oper} (ho : ops[i]? = some o) :
    wpDF P ops R S k eff Q (i :: rest) f r vs =
      (if Region.wanted o (yieldF ops f) then
        if i = k then (∀ vs' w, S none vs' w → EffAt P o f w fun v w' => S (some v) vs' w') ∧ ∀ x, (∃ vs' w, S (some x) vs' w) → wpDF P ops R S k eff Q rest (updO f o.dst x) (some x) vs
        else if eff i then (∀ r' w, (r.isSome = true → r' = r) → S r' vs w → EffAt P o f w fun v w' => S r' (vs ++ [v]) w') ∧
          ∀ v, (∃ r' w, S r' (vs ++ [v]) w) → wpDF P ops R S k eff Q rest (updO f o.dst v) r (vs ++ [v])
        else ∃ v, Quiet P R o f v ∧ wpDF P ops R S k eff Q rest (updO f o.dst v) r vs
      else wpDF P ops R S k eff Q rest (updO f o.dst undef) r vs) := by
  conv => lhs; unfold wpDF
  rw [ho]

/-- All of a list is there, and apart from one operation; and none of it is of the kinds that may not be passed. -/
def ApartL (ops : Array Oper) (o : Oper) (pre : List Nat) : Prop := ∀ j ∈ pre, ∃ oj, ops[j]? = some oj ∧ oj.apart ops o = true ∧ noSel oj = true

theorem front_q {i : Nat} {o : Oper} (ho : ops[i]? = some o) (hs : noSel o = true) (hik : i ≠ k) (hie : eff i = false) {post : List Nat} :
    ∀ (pre : List Nat) (f : Fr) (r : Option Value) (vs : List Value), ApartL ops o pre → (∀ j ∈ pre, eff j = false ∧ j ≠ k) → wpDF P ops R S k eff Q (pre ++ i :: post) f r vs →
      if Region.wanted o (yieldF ops f) then ∃ v, Quiet P R o f v ∧ wpDF P ops R S k eff Q (pre ++ post) (updO f o.dst v) r vs else wpDF P ops R S k eff Q (pre ++ post) (updO f o.dst undef) r vs := by
  intro pre
  induction pre with
  | nil =>
    intro f r vs _ _ h
    simp only [List.nil_append] at h ⊢
    simp only [wpDF_some ho, if_neg hik, hie, Bool.false_eq_true, if_false] at h
    exact h
  | cons j pre ih =>
    intro f r vs hap hq h
    obtain ⟨oj, hj, hjo, hsj⟩ := hap j (by simp)
    obtain ⟨a1, a2, a3⟩ := Oper.apart_spec hjo
    have hap' : ApartL ops o pre := fun x hx => hap x (by simp [hx])
    have hq' : ∀ j ∈ pre, eff j = false ∧ j ≠ k := fun x hx => hq x (by simp [hx])
    obtain ⟨q1, q2⟩ := hq j (by simp)
    simp only [List.cons_append] at h ⊢
    simp only [wpDF_some hj, if_neg q2, q1, Bool.false_eq_true, if_false] at h
    simp only [wpDF_some hj, if_neg q2, q1, Bool.false_eq_true, if_false, wanted_updO oj a3]
    by_cases hw : Region.wanted oj (yieldF ops f) = true
    · rw [if_pos hw] at h
      simp only [if_pos hw]
      obtain ⟨u, hu, h⟩ := h
      have := ih (updO f oj.dst u) r vs hap' hq' h
      rw [wanted_updO o a1] at this
      by_cases hwo : Region.wanted o (yieldF ops f) = true
      · rw [if_pos hwo] at this ⊢
        obtain ⟨v, hv, h⟩ := this
        exact ⟨v, (Quiet.updO hs a1).1 hv, u, (Quiet.updO hsj a3).2 hu, by rw [updO_comm f v u (fun d hd hd' => a2 d hd' hd)]; exact h⟩
      · rw [if_neg hwo] at this ⊢
        exact ⟨u, (Quiet.updO hsj a3).2 hu, by rw [updO_comm f undef u (fun d hd hd' => a2 d hd' hd)]; exact this⟩
    · rw [if_neg hw] at h
      simp only [if_neg hw]
      have := ih (updO f oj.dst undef) r vs hap' hq' h
      rw [wanted_updO o a1] at this
      by_cases hwo : Region.wanted o (yieldF ops f) = true
      · rw [if_pos hwo] at this ⊢
        obtain ⟨v, hv, h⟩ := this
        exact ⟨v, (Quiet.updO hs a1).1 hv, by rw [updO_comm f v undef (fun d hd hd' => a2 d hd' hd)]; exact h⟩
      · rw [if_neg hwo] at this ⊢
        rw [updO_comm f undef undef (fun d hd hd' => a2 d hd' hd)]; exact this

theorem front_e {i : Nat} {o : Oper} (ho : ops[i]? = some o) (hs : noSel o = true) (hik : i ≠ k) (hie : eff i = true) {post : List Nat} :
    ∀ (pre : List Nat) (f : Fr) (r : Option Value) (vs : List Value), ApartL ops o pre → (∀ j ∈ pre, eff j = false ∧ j ≠ k) → wpDF P ops R S k eff Q (pre ++ i :: post) f r vs →
      if Region.wanted o (yieldF ops f) then (∀ r' w, (r.isSome = true → r' = r) → S r' vs w → EffAt P o f w fun v w' => S r' (vs ++ [v]) w') ∧
          ∀ v, (∃ r' w, S r' (vs ++ [v]) w) → wpDF P ops R S k eff Q (pre ++ post) (updO f o.dst v) r (vs ++ [v])
      else wpDF P ops R S k eff Q (pre ++ post) (updO f o.dst undef) r vs := by
  intro pre
  induction pre with
  | nil =>
    intro f r vs _ _ h
    simp only [List.nil_append] at h ⊢
    simp only [wpDF_some ho, if_neg hik, hie, if_true] at h
    exact h
  | cons j pre ih =>
    intro f r vs hap hq h
    obtain ⟨oj, hj, hjo, hsj⟩ := hap j (by simp)
    obtain ⟨a1, a2, a3⟩ := Oper.apart_spec hjo
    have hap' : ApartL ops o pre := fun x hx => hap x (by simp [hx])
    have hq' : ∀ j ∈ pre, eff j = false ∧ j ≠ k := fun x hx => hq x (by simp [hx])
    obtain ⟨q1, q2⟩ := hq j (by simp)
    simp only [List.cons_append] at h ⊢
    simp only [wpDF_some hj, if_neg q2, q1, Bool.false_eq_true, if_false] at h
    simp only [wpDF_some hj, if_neg q2, q1, Bool.false_eq_true, if_false, wanted_updO oj a3]
    by_cases hw : Region.wanted oj (yieldF ops f) = true
    · rw [if_pos hw] at h
      simp only [if_pos hw]
      obtain ⟨u, hu, h⟩ := h
      have := ih (updO f oj.dst u) r vs hap' hq' h
      rw [wanted_updO o a1] at this
      by_cases hwo : Region.wanted o (yieldF ops f) = true
      · rw [if_pos hwo] at this ⊢
        obtain ⟨he, h⟩ := this
        exact ⟨fun r' w hr hS => (EffAt.updO hs a1).1 (he r' w hr hS), fun v hv => ⟨u, (Quiet.updO hsj a3).2 hu, by rw [updO_comm f v u (fun d hd hd' => a2 d hd' hd)]; exact h v hv⟩⟩
      · rw [if_neg hwo] at this ⊢
        exact ⟨u, (Quiet.updO hsj a3).2 hu, by rw [updO_comm f undef u (fun d hd hd' => a2 d hd' hd)]; exact this⟩
    · rw [if_neg hw] at h
      simp only [if_neg hw]
      have := ih (updO f oj.dst undef) r vs hap' hq' h
      rw [wanted_updO o a1] at this
      by_cases hwo : Region.wanted o (yieldF ops f) = true
      · rw [if_pos hwo] at this ⊢
        obtain ⟨he, h⟩ := this
        exact ⟨fun r' w hr hS => (EffAt.updO hs a1).1 (he r' w hr hS), fun v hv => by rw [updO_comm f v undef (fun d hd hd' => a2 d hd' hd)]; exact h v hv⟩
      · rw [if_neg hwo] at this ⊢
        rw [updO_comm f undef undef (fun d hd hd' => a2 d hd' hd)]; exact this

theorem front_k1 {o : Oper} (ho : ops[k]? = some o) (hs : noSel o = true) {post : List Nat} :
    ∀ (pre : List Nat) (f : Fr) (vs : List Value), ApartL ops o pre → (∀ j ∈ pre, j ≠ k) → wpDF P ops R S k eff Q (pre ++ k :: post) f none vs → (∃ w, S none vs w) → Region.wanted o (yieldF ops f) = true →
      ∀ vs' w, S none vs' w → EffAt P o f w fun v w' => S (some v) vs' w' := by
  intro pre
  induction pre with
  | nil =>
    intro f vs _ _ h _ hw
    simp only [List.nil_append] at h
    rw [wpDF_some ho, if_pos hw, if_pos rfl] at h
    exact h.1
  | cons j pre ih =>
    intro f vs hap hq h hne hwo vs' w hS
    obtain ⟨oj, hj, hjo, hsj⟩ := hap j (by simp)
    obtain ⟨a1, a2, a3⟩ := Oper.apart_spec hjo
    have hap' : ApartL ops o pre := fun x hx => hap x (by simp [hx])
    have hq' : ∀ j ∈ pre, j ≠ k := fun x hx => hq x (by simp [hx])
    simp only [List.cons_append] at h
    simp only [wpDF_some hj, if_neg (hq j (by simp))] at h
    by_cases hw : Region.wanted oj (yieldF ops f) = true
    · rw [if_pos hw] at h
      by_cases he : eff j = true
      · rw [if_pos he] at h
        obtain ⟨w0, hw0⟩ := hne
        obtain ⟨v, w1, hv⟩ := (h.1 none w0 (fun h => by simp at h) hw0).some
        have := ih (updO f oj.dst v) (vs ++ [v]) hap' hq' (h.2 v ⟨none, w1, hv⟩) ⟨w1, hv⟩ (by rw [wanted_updO o a1]; exact hwo) vs' w hS
        exact (EffAt.updO hs a1).1 this
      · rw [if_neg he] at h
        obtain ⟨u, _, h⟩ := h
        exact (EffAt.updO hs a1).1 (ih (updO f oj.dst u) vs hap' hq' h hne (by rw [wanted_updO o a1]; exact hwo) vs' w hS)
    · rw [if_neg hw] at h
      exact (EffAt.updO hs a1).1 (ih (updO f oj.dst undef) vs hap' hq' h hne (by rw [wanted_updO o a1]; exact hwo) vs' w hS)

theorem front_k2 {o : Oper} (ho : ops[k]? = some o) {post : List Nat} :
    ∀ (pre : List Nat) (f : Fr) (vs : List Value), ApartL ops o pre → (∀ j ∈ pre, j ≠ k) → wpDF P ops R S k eff Q (pre ++ k :: post) f none vs →
      if Region.wanted o (yieldF ops f) then ∀ x, (∃ vs' w, S (some x) vs' w) → wpDF P ops R S k eff Q (pre ++ post) (updO f o.dst x) (some x) vs
      else wpDF P ops R S k eff Q (pre ++ post) (updO f o.dst undef) none vs := by
  intro pre
  induction pre with
  | nil =>
    intro f vs _ _ h
    simp only [List.nil_append] at h ⊢
    simp only [wpDF_some ho] at h
    by_cases hw : Region.wanted o (yieldF ops f) = true
    · rw [if_pos hw] at h ⊢
      exact fun x hx => h.2 x hx
    · rw [if_neg hw] at h ⊢
      exact h
  | cons j pre ih =>
    intro f vs hap hq h
    obtain ⟨oj, hj, hjo, hsj⟩ := hap j (by simp)
    obtain ⟨a1, a2, a3⟩ := Oper.apart_spec hjo
    have hap' : ApartL ops o pre := fun x hx => hap x (by simp [hx])
    have hq' : ∀ j ∈ pre, j ≠ k := fun x hx => hq x (by simp [hx])
    have hjk := hq j (by simp)
    simp only [List.cons_append] at h ⊢
    simp only [wpDF_some hj, if_neg hjk] at h
    simp only [wpDF_some hj, if_neg hjk, wanted_updO oj a3]
    have cm : ∀ x u, updO (updO f o.dst x) oj.dst u = updO (updO f oj.dst u) o.dst x := fun x u => updO_comm f x u (fun d hd hd' => a2 d hd' hd)
    by_cases hw : Region.wanted oj (yieldF ops f) = true
    · rw [if_pos hw] at h
      simp only [if_pos hw]
      by_cases he : eff j = true
      · rw [if_pos he] at h
        simp only [if_pos he]
        obtain ⟨h1, h2⟩ := h
        by_cases hwo : Region.wanted o (yieldF ops f) = true
        · rw [if_pos hwo]
          intro x hx
          refine ⟨fun r' w hr hS => (EffAt.updO hsj a3).2 (h1 r' w (fun h => by simp at h) hS), fun v hv => ?_⟩
          have := ih (updO f oj.dst v) (vs ++ [v]) hap' hq' (h2 v hv)
          rw [wanted_updO o a1, if_pos hwo] at this
          rw [cm]
          exact this x hx
        · rw [if_neg hwo]
          refine ⟨fun r' w hr hS => (EffAt.updO hsj a3).2 (h1 r' w hr hS), fun v hv => ?_⟩
          have := ih (updO f oj.dst v) (vs ++ [v]) hap' hq' (h2 v hv)
          rw [wanted_updO o a1, if_neg hwo] at this
          rw [cm]
          exact this
      · rw [if_neg he] at h
        simp only [if_neg he]
        obtain ⟨u, hu, h⟩ := h
        have := ih (updO f oj.dst u) vs hap' hq' h
        rw [wanted_updO o a1] at this
        by_cases hwo : Region.wanted o (yieldF ops f) = true
        · rw [if_pos hwo] at this ⊢
          exact fun x hx => ⟨u, (Quiet.updO hsj a3).2 hu, by rw [cm]; exact this x hx⟩
        · rw [if_neg hwo] at this ⊢
          exact ⟨u, (Quiet.updO hsj a3).2 hu, by rw [cm]; exact this⟩
    · rw [if_neg hw] at h
      simp only [if_neg hw]
      have := ih (updO f oj.dst undef) vs hap' hq' h
      rw [wanted_updO o a1] at this
      by_cases hwo : Region.wanted o (yieldF ops f) = true
      · rw [if_pos hwo] at this ⊢
        exact fun x hx => by rw [cm]; exact this x hx
      · rw [if_neg hwo] at this ⊢
        rw [cm]; exact this

end

/-! ### which operations wait for which -/

def edges (o : Oper) : List Nat := (o.after.toList.filter (Region.binds .any)).map (·.on)

/-- The operations that one waits for, as bits, out of those of the ones ahead of it. -/
def maskOf (t : List Nat) (es : List Nat) : Nat := es.foldl (fun s e => s ||| 2 ^ e ||| t.getD e 0) 0

def maskTab (l : List Oper) : Nat → List Nat
  | 0 => []
  | n + 1 => maskTab l n ++ [match l[n]? with | some o => maskOf (maskTab l n) (edges o) | none => 0]

theorem maskTab_length (l : List Oper) : ∀ n, (maskTab l n).length = n
  | 0 => rfl
  | n + 1 => by simp [maskTab, maskTab_length l n]

theorem maskTab_get (l : List Oper) (j : Nat) : ∀ n, j < n → (maskTab l n).getD j 0 = match l[j]? with | some o => maskOf (maskTab l j) (edges o) | none => 0
  | n + 1, h => by
    simp only [maskTab, List.getD_eq_getElem?_getD]
    by_cases hj : j < n
    · rw [List.getElem?_append_left (by rw [maskTab_length]; exact hj), ← List.getD_eq_getElem?_getD]
      exact maskTab_get l j n hj
    · have : j = n := by omega
      subst this
      rw [List.getElem?_append_right (by rw [maskTab_length]; exact Nat.le_refl _), maskTab_length]
      simp

theorem maskOf_bit {t es : List Nat} {i : Nat} (h : (maskOf t es).testBit i = true) : ∃ e ∈ es, i = e ∨ (t.getD e 0).testBit i = true := by
  unfold maskOf at h
  have key : ∀ (es : List Nat) (s : Nat), (es.foldl (fun s e => s ||| 2 ^ e ||| t.getD e 0) s).testBit i = true → s.testBit i = true ∨ ∃ e ∈ es, i = e ∨ (t.getD e 0).testBit i = true := by
    intro es
    induction es with
    | nil => intro s h; exact .inl h
    | cons e es ih =>
      intro s h
      rcases ih _ h with h | ⟨e', he', h⟩
      · simp only [Nat.testBit_or, Bool.or_eq_true, Nat.testBit_two_pow] at h
        rcases h with (h | h) | h
        · exact .inl h
        · exact .inr ⟨e, by simp, .inl (by simpa [eq_comm] using h)⟩
        · exact .inr ⟨e, by simp, .inr h⟩
      · exact .inr ⟨e', by simp [he'], h⟩
  rcases key es 0 h with h | h
  · simp at h
  · exact h

/-- What has been carried out holds with each operation all that it waits for. -/
def Down (l : List Oper) (D : Nat → Prop) : Prop := ∀ j o, l[j]? = some o → D j → ∀ e ∈ edges o, D e

theorem mask_down {l : List Oper} {D : Nat → Prop} (hd : Down l D) (n : Nat) : ∀ j, j < n → ∀ o, l[j]? = some o → (∀ e ∈ edges o, D e) → ∀ i, ((maskTab l n).getD j 0).testBit i = true → D i := by
  intro j
  induction j using Nat.strongRecOn with
  | _ j ih =>
    intro hj o ho he i hi
    rw [maskTab_get l j n hj, ho] at hi
    obtain ⟨e, hem, h⟩ := maskOf_bit hi
    rcases h with rfl | h
    · exact he _ hem
    · by_cases hej : e < j
      · have h0 : (maskTab l j).getD e 0 = (maskTab l n).getD e 0 := by rw [maskTab_get l e j hej, maskTab_get l e n (by omega)]
        rw [h0] at h
        cases hoe : l[e]? with
        | none =>
          rw [maskTab_get l e n (by omega), hoe] at h
          simp at h
        | some oe => exact ih e hej (by omega) oe hoe (hd e oe hoe (he e hem)) i h
      · have : (maskTab l j).getD e 0 = 0 := by
          rw [List.getD_eq_getElem?_getD, List.getElem?_eq_none (by rw [maskTab_length]; omega)]; rfl
        rw [this] at h
        simp at h

/-- The order ord may be taken: no operation stands ahead of one that it waits for; and what stands ahead without being waited for is apart, and of a kind that may be passed. -/
def ordOk (l : List Oper) (ord : List Nat) (k : Nat) (eff : Nat → Bool) : Bool :=
  let t := maskTab l l.length
  let a := l.toArray
  ord.length == l.length && (List.range l.length).all (fun i => ord.contains i) && ord.all (fun i => decide (i < l.length)) && l.all noSel &&
  (List.range l.length).all (fun i => match l[i]? with | some o => (edges o).all (fun e => e < l.length && e != i) | none => false) &&
  go t a ord
  where
  go (t : List Nat) (a : Array Oper) : List Nat → Bool
    | [] => true
    | i :: rest => rest.all (fun j => i != j &&
        match l[i]?, l[j]? with
        | some oi, some oj => !(edges oi).contains j &&
          ((t.getD j 0).testBit i || (oi.apart a oj && (j == k || (!eff i && i != k))))
        | _, _ => false) && go t a rest


def OrdR (l : List Oper) (t : List Nat) (a : Array Oper) (k : Nat) (eff : Nat → Bool) (i j : Nat) : Prop :=
  i ≠ j ∧ ∃ oi oj, l[i]? = some oi ∧ l[j]? = some oj ∧ j ∉ edges oi ∧ ((t.getD j 0).testBit i = true ∨ (oi.apart a oj = true ∧ (j = k ∨ (eff i = false ∧ i ≠ k))))

theorem ordOk_go {l : List Oper} {t : List Nat} {a : Array Oper} {k : Nat} {eff : Nat → Bool} : ∀ {ord : List Nat}, ordOk.go l k eff t a ord = true → ord.Pairwise (OrdR l t a k eff)
  | [], _ => .nil
  | i :: rest, h => by
    unfold ordOk.go at h
    simp only [Bool.and_eq_true, List.all_eq_true] at h
    obtain ⟨h1, h2⟩ := h
    refine .cons (fun j hj => ?_) (ordOk_go h2)
    obtain ⟨hij, this⟩ := h1 j hj
    refine ⟨by simpa using hij, ?_⟩
    split at this
    · rename_i oi oj hi hj
      refine ⟨oi, oj, hi, hj, ?_⟩
      simp only [Bool.and_eq_true, Bool.or_eq_true, Bool.not_eq_true', List.contains_eq_mem, decide_eq_false_iff_not, beq_iff_eq, bne_iff_ne, ne_eq] at this
      exact this
    · cases this

theorem todo_split {α : Type} {p : α → Bool} {i : α} {pre post : List α} (hp : ∀ x ∈ pre ++ i :: post, p x = true ↔ x ≠ i) (hn : (pre ++ i :: post).Nodup) : (pre ++ i :: post).filter p = pre ++ post := by
  have hi : p i = false := by
    cases h : p i
    · rfl
    · exact absurd rfl ((hp i (by simp)).1 h)
  rw [List.nodup_append] at hn
  obtain ⟨_, h2, h3⟩ := hn
  rw [List.filter_append, List.filter_cons, if_neg (by rw [hi]; simp)]
  rw [List.filter_eq_self.2 fun x hx => (hp x (by simp [hx])).2 fun e => h3 x hx i (by simp) e,
    List.filter_eq_self.2 fun x hx => (hp x (by simp [hx])).2 fun e => (List.nodup_cons.1 h2).1 (e ▸ hx)]

section
variable {P : Program} {N : Nat} {l : List Oper} {R : World → Prop} {S : Option Value → List Value → World → Prop} {k : Nat} {eff : Nat → Bool} {Q : FPost} {ord : List Nat}

theorem any_of_wpDF (hok : ordOk l ord k eff = true) (hN : opsOk N l = true) (hR : ∀ r vs w, S r vs w → R w) : ∀ (fuel : Nat) (listed : Array Bool) (f : Fr) (r : Option Value) (vs : List Value) (w : World) (a : Act),
    listed.size = l.length → (ord.filter fun i => !listed.getD i true).length ≤ fuel → Down l (fun i => listed.getD i true = true) →
    wpDF P l.toArray R S k eff (Q .normal) (ord.filter fun i => !listed.getD i true) f r vs → S r vs w → (k ∈ (ord.filter fun i => !listed.getD i true) → r = none) → Rel N f a →
    wpAny P .any l.toArray (low N Q) fuel listed a w := by
  have hok0 := hok
  unfold ordOk at hok
  simp only [Bool.and_eq_true, List.all_eq_true, beq_iff_eq] at hok
  obtain ⟨⟨⟨⟨⟨c1, c2⟩, c0⟩, c3⟩, c4⟩, c5⟩ := hok
  have pw := ordOk_go c5
  have hmem : ∀ i, i < l.length → i ∈ ord := fun i hi => by simpa using c2 i (by simpa using hi)
  -- ord has each number once
  have hnd : ord.Nodup := pw.imp fun h => h.1
  have hlt : ∀ i ∈ ord, i < l.length := fun i hi => by simpa using c0 i hi
  have hedge : ∀ i o, l[i]? = some o → ∀ e ∈ edges o, e < l.length ∧ e ≠ i := fun i o ho e he => by
    have hi : i < l.length := (List.getElem?_eq_some_iff.1 ho).1
    have := c4 i (by simpa using hi)
    rw [ho] at this
    simp only [List.all_eq_true, Bool.and_eq_true, decide_eq_true_eq, bne_iff_ne, ne_eq] at this
    exact this e he
  -- an operation is ready just where all that it waits for is listed
  have hready : ∀ (listed : Array Bool) i o, l[i]? = some o → (i ∈ Region.ready .any l.toArray listed ↔ listed.getD i true = false ∧ ∀ e ∈ edges o, listed.getD e false = true) := fun listed i o ho => by
    have hi : i < l.length := (List.getElem?_eq_some_iff.1 ho).1
    unfold Region.ready edges
    simp only [List.mem_filter, List.mem_range, List.size_toArray, List.getElem?_toArray, ho, Option.map_some, Option.getD_some, Bool.and_eq_true, Bool.not_eq_true', Array.all_eq_true', List.mem_map, Bool.or_eq_true]
    constructor
    · rintro ⟨_, h1, h2⟩
      refine ⟨h1, ?_⟩
      rintro e ⟨x, hx, rfl⟩
      have := h2 x (by simpa using hx.1)
      rcases this with h | h
      · rw [hx.2] at h; cases h
      · exact h
    · rintro ⟨h1, h2⟩
      refine ⟨hi, h1, fun x hx => ?_⟩
      cases hb : Region.binds .any x
      · exact .inl rfl
      · exact .inr (h2 _ ⟨x, ⟨by simpa using hx, hb⟩, rfl⟩)
  have hsame : ∀ (listed : Array Bool), listed.size = l.length → ∀ e, e < l.length → listed.getD e false = listed.getD e true := fun listed hs e he => by
    simp [Array.getD_eq_getD_getElem?, Array.getElem?_eq_getElem (show e < listed.size by omega)]
  intro fuel
  induction fuel with
  | zero =>
    intro listed f r vs w a hsz hfu _ h hS _ ha
    have hnil : (ord.filter fun i => !listed.getD i true) = [] := List.length_eq_zero_iff.1 (Nat.le_zero.1 hfu)
    rw [hnil] at h
    refine ⟨?_, f, ha, h w hS⟩
    refine List.eq_nil_iff_forall_not_mem.2 fun i hi => ?_
    have hi0 : i < l.length := by unfold Region.ready at hi; simp at hi; exact hi.1
    obtain ⟨o, ho⟩ : ∃ o, l[i]? = some o := ⟨_, List.getElem?_eq_getElem hi0⟩
    have := ((hready listed i o ho).1 hi).1
    have : i ∈ (ord.filter fun i => !listed.getD i true) := List.mem_filter.2 ⟨hmem i hi0, by rw [this]; rfl⟩
    rw [hnil] at this
    cases this
  | succ fuel ih =>
    intro listed f r vs w a hsz hfu hdown h hS hk ha
    constructor
    · intro hr
      cases ht : (ord.filter fun i => !listed.getD i true) with
      | nil => rw [ht] at h; exact ⟨f, ha, h w hS⟩
      | cons i rest =>
        exfalso
        have hi : i ∈ (ord.filter fun i => !listed.getD i true) := by rw [ht]; simp
        obtain ⟨hi1, hi2⟩ := List.mem_filter.1 hi
        have hil : listed.getD i true = false := by simpa using hi2
        obtain ⟨o, ho⟩ : ∃ o, l[i]? = some o := ⟨_, List.getElem?_eq_getElem (hlt i hi1)⟩
        have : i ∈ Region.ready .any l.toArray listed := (hready listed i o ho).2 ⟨hil, fun e he => by
          rw [hsame listed hsz e (hedge i o ho e he).1]
          cases hel : listed.getD e true with
          | true => rfl
          | false =>
            exfalso
            have hem : e ∈ (ord.filter fun i => !listed.getD i true) := List.mem_filter.2 ⟨hmem e (hedge i o ho e he).1, by rw [hel]; rfl⟩
            rw [ht] at hem
            rcases List.mem_cons.1 hem with rfl | hem
            · exact (hedge _ o ho _ he).2 rfl
            · have pw' : (i :: rest).Pairwise (OrdR l (maskTab l l.length) l.toArray k eff) := by rw [← ht]; exact pw.filter _
              obtain ⟨_, oi, oj, h1, h2, h3, _⟩ := (List.pairwise_cons.1 pw').1 e hem
              rw [ho] at h1
              cases h1
              exact h3 he⟩
        rw [hr] at this
        cases this
    · intro i hir
      have hi0 : i < l.length := by have := hir; unfold Region.ready at this; simp at this; exact this.1
      obtain ⟨o, ho⟩ : ∃ o, l[i]? = some o := ⟨_, List.getElem?_eq_getElem hi0⟩
      obtain ⟨hil, hie⟩ := (hready listed i o ho).1 hir
      have hitodo : i ∈ (ord.filter fun i => !listed.getD i true) := List.mem_filter.2 ⟨hmem i hi0, by rw [hil]; rfl⟩
      obtain ⟨pre, post, hsplit⟩ := List.append_of_mem hitodo
      have hndt : (pre ++ i :: post).Nodup := by rw [← hsplit]; exact hnd.filter _
      have pw' : (pre ++ i :: post).Pairwise (OrdR l (maskTab l l.length) l.toArray k eff) := by rw [← hsplit]; exact pw.filter _
      have hprei : ∀ j ∈ pre, ∃ oj, l[j]? = some oj ∧ oj.apart l.toArray o = true ∧ (i = k ∨ (eff j = false ∧ j ≠ k)) := fun j hj => by
        obtain ⟨_, oj, oi, h1, h2, _, h4⟩ := (List.pairwise_append.1 pw').2.2 j hj i (by simp)
        rw [ho] at h2
        cases h2
        refine ⟨oj, h1, ?_⟩
        rcases h4 with h4 | h4
        · exfalso
          have hjl : listed.getD j true = true := mask_down hdown l.length i hi0 o ho (fun e he => by rw [← hsame listed hsz e (hedge i o ho e he).1]; exact hie e he) j h4
          have : j ∈ (ord.filter fun i => !listed.getD i true) := by rw [hsplit]; simp [hj]
          have := (List.mem_filter.1 this).2
          rw [hjl] at this
          cases this
        · exact h4
      have hnosel : ∀ j oj, l[j]? = some oj → noSel oj = true := fun j oj hj => c3 oj (List.mem_of_getElem? hj)
      have hapl : ApartL l.toArray o pre := fun j hj => by
        obtain ⟨oj, h1, h2, _⟩ := hprei j hj
        exact ⟨oj, by simpa using h1, h2, hnosel j oj h1⟩
      have hoN : opOk N o := opsOk_mem hN o (List.mem_of_getElem? ho)
      have hoa : l.toArray[i]? = some o := by simpa using ho
      -- what is left behind it
      have hset : (ord.filter fun x => !(listed.setIfInBounds i true).getD x true) = pre ++ post := by
        have e1 : (ord.filter fun x => !(listed.setIfInBounds i true).getD x true) = (ord.filter fun i => !listed.getD i true).filter (fun x => x != i) := by
          rw [List.filter_filter]
          refine List.filter_congr fun x hx => ?_
          by_cases hxi : x = i
          · subst hxi
            simp [Array.getD_eq_getD_getElem?, show x < listed.size by omega]
          · simp [Array.getD_eq_getD_getElem?, Array.getElem?_setIfInBounds_ne (Ne.symm hxi), hxi]
        rw [e1, hsplit]
        exact todo_split (fun x _ => by simp) hndt
      have hlen : (pre ++ post).length ≤ fuel := by
        have : (pre ++ i :: post).length ≤ fuel + 1 := by rw [← hsplit]; exact hfu
        simp at this ⊢; omega
      have hdown' : Down l (fun x => (listed.setIfInBounds i true).getD x true = true) := fun j oj hj hjl e he => by
        by_cases hei : e = i
        · subst hei; simp [Array.getD_eq_getD_getElem?, show e < listed.size by omega]
        · have hl : listed.getD e true = true := by
            by_cases hji : j = i
            · subst hji
              rw [ho] at hj
              cases hj
              rw [← hsame listed hsz e (hedge _ o ho e he).1]
              exact hie e he
            · refine hdown j oj hj ?_ e he
              simpa [Array.getD_eq_getD_getElem?, Array.getElem?_setIfInBounds_ne (Ne.symm hji)] using hjl
          simpa [Array.getD_eq_getD_getElem?, Array.getElem?_setIfInBounds_ne (Ne.symm hei)] using hl
      have next : ∀ f' r' vs' w' a', wpDF P l.toArray R S k eff (Q .normal) (pre ++ post) f' r' vs' → S r' vs' w' → (k ∈ pre ++ post → r' = none) → Rel N f' a' →
          wpAny P .any l.toArray (low N Q) fuel (listed.setIfInBounds i true) a' w' := fun f' r' vs' w' a' h' hS' hk' ha' =>
        ih _ f' r' vs' w' a' (by simpa using hsz) (by rw [hset]; exact hlen) hdown' (by rw [hset]; exact h') hS' (by rw [hset]; exact hk') ha'
      have hkpp : k ∈ pre ++ post → r = none := fun hm => hk (by rw [hsplit]; simp at hm ⊢; rcases hm with h | h <;> simp [h])
      rw [hsplit] at h
      unfold wpOp
      rw [hoa]
      simp only []
      rw [ha.yielded]
      by_cases hik : i = k
      · subst hik
        have hr : r = none := hk hitodo
        subst hr
        have hne : ∀ j ∈ pre, j ≠ i := fun j hj e => by
          subst e
          exact (List.nodup_append.1 hndt).2.2 j hj j (by simp) rfl
        have hnot : i ∉ pre ++ post := fun hm => by
          rcases List.mem_append.1 hm with h | h
          · exact hne i h rfl
          · exact (List.nodup_cons.1 (List.nodup_append.1 hndt).2.1).1 h
        by_cases hw : Region.wanted o (yieldF l.toArray f) = true
        · rw [if_pos hw]
          have h1 := front_k1 hoa (hnosel i o ho) pre f vs hapl hne h ⟨w, hS⟩ hw vs w hS
          have h2 := front_k2 hoa pre f vs hapl hne h
          rw [if_pos hw] at h2
          exact .inl (EffAt.wp ha h1 fun v w' hv => next _ _ _ _ _ (h2 v ⟨vs, w', hv⟩) hv (fun hm => absurd hm hnot) (ha.put _ _ hoN))
        · rw [if_neg hw]
          have h2 := front_k2 hoa pre f vs hapl hne h
          rw [if_neg hw] at h2
          exact next _ _ _ _ _ h2 hS (fun hm => absurd hm hnot) (ha.put _ _ hoN)
      · have hq : ∀ j ∈ pre, eff j = false ∧ j ≠ k := fun j hj => by
          obtain ⟨oj, _, _, h3⟩ := hprei j hj
          exact h3.resolve_left hik
        cases he : eff i with
        | false =>
          have h1 := front_q hoa (hnosel i o ho) hik he pre f r vs hapl hq h
          by_cases hw : Region.wanted o (yieldF l.toArray f) = true
          · rw [if_pos hw] at h1 ⊢
            obtain ⟨v, hv, h1⟩ := h1
            refine .inl ?_
            unfold Oper.wp
            have := hv w (hR _ _ _ hS)
            unfold runF at this
            rw [ha.eval]
            rcases this with e | ⟨e, rfl⟩ <;> rw [e]
            · exact next _ _ _ _ _ h1 hS hkpp (ha.put _ _ hoN)
            · exact next _ _ _ _ _ h1 hS hkpp (ha.put _ _ hoN)
          · rw [if_neg hw] at h1 ⊢
            exact next _ _ _ _ _ h1 hS hkpp (ha.put _ _ hoN)
        | true =>
          have h1 := front_e hoa (hnosel i o ho) hik he pre f r vs hapl hq h
          by_cases hw : Region.wanted o (yieldF l.toArray f) = true
          · rw [if_pos hw] at h1 ⊢
            obtain ⟨h1, h2⟩ := h1
            exact .inl (EffAt.wp ha (h1 r w (fun _ => rfl) hS) fun v w' hv => next _ _ _ _ _ (h2 v ⟨r, w', hv⟩) hv hkpp (ha.put _ _ hoN))
          · rw [if_neg hw] at h1 ⊢
            exact next _ _ _ _ _ h1 hS hkpp (ha.put _ _ hoN)

/-- A REGION THAT DRAWS ITS ORDER. -/
theorem wpF_draw (ord : List Nat) (k : Nat) (eff : Nat → Bool) (R : World → Prop) (S : Option Value → List Value → World → Prop) {id : Nat} {f : Fr} {w : World} (hm : P.follows .mixedOrders = true)
    (hok : ordOk l ord k eff = true) (hN : opsOk N l = true) (hR : ∀ r vs w, S r vs w → R w) (h0 : S none [] { w with drawn := w.drawn + 1 })
    (h : wpDF P l.toArray R S k eff (Q .normal) ord f none []) : wpF P N (.region id l.toArray true) Q f w := by
  intro a ha
  refine wp_region_any hm ?_
  have hall : (ord.filter fun i => !(Array.replicate l.toArray.size false).getD i true) = ord := by
    refine List.filter_eq_self.2 fun i hi => ?_
    have hok' := hok
    unfold ordOk at hok'
    simp only [Bool.and_eq_true, List.all_eq_true, beq_iff_eq] at hok'
    obtain ⟨⟨⟨⟨⟨_, _⟩, c0⟩, _⟩, _⟩, _⟩ := hok'
    have : i < l.length := by simpa using c0 i hi
    simp [Array.getD_eq_getD_getElem?, this]
  refine any_of_wpDF hok hN hR _ _ f none [] _ a (by simp) ?_ ?_ ?_ h0 (fun _ => rfl) ha
  · rw [hall]
    have hok' := hok
    unfold ordOk at hok'
    simp only [Bool.and_eq_true, beq_iff_eq] at hok'
    rw [hok'.1.1.1.1.1]; simp
  · intro j o hj hjl
    have hj0 : j < l.length := (List.getElem?_eq_some_iff.1 hj).1
    simp [Array.getD_eq_getD_getElem?, hj0] at hjl
  · rw [hall]; exact h

/-- The walk, step by step. -/
theorem wpDF_nil {ops : Array Oper} {Q : Fr → World → Prop} {f : Fr} {r : Option Value} {vs : List Value} (h : ∀ w, S r vs w → Q f w) : wpDF P ops R S k eff Q [] f r vs := h

theorem wpDF_quiet {ops : Array Oper} {Q : Fr → World → Prop} {f : Fr} {r : Option Value} {vs : List Value} {i : Nat} {rest : List Nat} {d : Option Nat} {op : Op} {ty : TypeId} {pos : String} {af : Array Edge} {gd : Option (Nat × Bool)} {v : Value} (ho : ops[i]? = some ⟨d, op, ty, pos, af, gd⟩) (hw : Region.wanted ⟨d, op, ty, pos, af, gd⟩ (yieldF ops f) = true)
    (hk : Nat.beq i k = false) (he : eff i = false) (hq : ∀ w, R w → (execOp (ev f) ⟨d, op, ty, pos, af, gd⟩).run P w = .ok (.value v) w) (h : wpDF P ops R S k eff Q rest (updO f d v) r vs) : wpDF P ops R S k eff Q (i :: rest) f r vs := by
  rw [wpDF_some ho, if_pos hw, if_neg (fun e => by rw [e] at hk; simp at hk), if_neg (by rw [he]; simp)]
  exact ⟨v, fun w hw => .inl (hq w hw), h⟩

theorem wpDF_not {ops : Array Oper} {Q : Fr → World → Prop} {f : Fr} {r : Option Value} {vs : List Value} {i : Nat} {rest : List Nat} {d : Option Nat} {op : Op} {ty : TypeId} {pos : String} {af : Array Edge} {gd : Option (Nat × Bool)} (ho : ops[i]? = some ⟨d, op, ty, pos, af, gd⟩) (hw : Region.wanted ⟨d, op, ty, pos, af, gd⟩ (yieldF ops f) = false)
    (h : wpDF P ops R S k eff Q rest (updO f d undef) r vs) : wpDF P ops R S k eff Q (i :: rest) f r vs := by
  rw [wpDF_some ho, if_neg (by rw [hw]; simp)]
  exact h

theorem wpDF_eff {ops : Array Oper} {Q : Fr → World → Prop} {f : Fr} {r : Option Value} {vs : List Value} {i : Nat} {rest : List Nat} {d : Option Nat} {op : Op} {ty : TypeId} {pos : String} {af : Array Edge} {gd : Option (Nat × Bool)} (ho : ops[i]? = some ⟨d, op, ty, pos, af, gd⟩) (hw : Region.wanted ⟨d, op, ty, pos, af, gd⟩ (yieldF ops f) = true)
    (hk : Nat.beq i k = false) (he : eff i = true) (h1 : ∀ r' w, (r.isSome = true → r' = r) → S r' vs w → EffAt P ⟨d, op, ty, pos, af, gd⟩ f w fun v w' => S r' (vs ++ [v]) w')
    (h2 : ∀ v, (∃ r' w, S r' (vs ++ [v]) w) → wpDF P ops R S k eff Q rest (updO f d v) r (vs ++ [v])) : wpDF P ops R S k eff Q (i :: rest) f r vs := by
  rw [wpDF_some ho, if_pos hw, if_neg (fun e => by rw [e] at hk; simp at hk), if_pos he]
  exact ⟨h1, h2⟩

theorem wpDF_float {ops : Array Oper} {Q : Fr → World → Prop} {f : Fr} {r : Option Value} {vs : List Value} {rest : List Nat} {d : Option Nat} {op : Op} {ty : TypeId} {pos : String} {af : Array Edge} {gd : Option (Nat × Bool)} (ho : ops[k]? = some ⟨d, op, ty, pos, af, gd⟩) (hw : Region.wanted ⟨d, op, ty, pos, af, gd⟩ (yieldF ops f) = true)
    (h1 : ∀ vs' w, S none vs' w → EffAt P ⟨d, op, ty, pos, af, gd⟩ f w fun v w' => S (some v) vs' w') (h2 : ∀ x, (∃ vs' w, S (some x) vs' w) → wpDF P ops R S k eff Q rest (updO f d x) (some x) vs) : wpDF P ops R S k eff Q (k :: rest) f r vs := by
  rw [wpDF_some ho, if_pos hw, if_pos rfl]
  exact ⟨h1, h2⟩
end

end Go.Tw
