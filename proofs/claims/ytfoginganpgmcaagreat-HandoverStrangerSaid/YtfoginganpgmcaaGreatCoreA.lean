/- Frames as functions, and rules of the walk over them: a plain layer over the kit's wp. Nothing here speaks of a program. -/
import Derived.Orders
import Derived.Tactics
set_option linter.unusedSimpArgs false
set_option linter.unusedVariables false
namespace Go.Tw
open Go

abbrev Fr := Nat → Value

def upd (f : Fr) (d : Nat) (v : Value) : Fr := fun t => bif Nat.beq t d then v else f t

def updO (f : Fr) : Option Nat → Value → Fr
  | some d, v => upd f d v
  | none, _ => f

def ev (f : Fr) : Operand → Value
  | .tmp t => f t
  | .const v => v
  | .global g => .pointer (some ⟨g, 0, none⟩)
  | .func k => .func (.func k) #[] #[]

theorem upd_same (f : Fr) (d : Nat) (v : Value) : upd f d v d = v := by simp [upd]
theorem beq_no {t d : Nat} (h : t ≠ d) : Nat.beq t d = false := by
  cases hb : Nat.beq t d
  · rfl
  · exact absurd (Nat.eq_of_beq_eq_true hb) h
theorem upd_ne (f : Fr) {d t : Nat} (v : Value) (h : t ≠ d) : upd f d v t = f t := by simp only [upd, beq_no h, cond_false]

/-- Some slots, told one by one. -/
def updL (f : Fr) : List (Nat × Value) → Fr
  | [] => f
  | p :: r => upd (updL f r) p.1 p.2
def agrees (f : Fr) : List (Nat × Value) → Prop
  | [] => True
  | p :: r => f p.1 = p.2 ∧ agrees f r
theorem updL_eta {f : Fr} : ∀ {l : List (Nat × Value)}, agrees f l → f = updL f l
  | [], _ => rfl
  | p :: r, ⟨h1, h2⟩ => by
    funext t
    show f t = upd (updL f r) p.1 p.2 t
    rw [← updL_eta h2]
    by_cases h : t = p.1
    · subst h; rw [upd_same, h1]
    · rw [upd_ne _ _ h]

/-- The frame f is what the array of temporaries holds. -/
structure Rel (N : Nat) (f : Fr) (a : Act) : Prop where
  size : a.tmps.size = N
  defers : a.defers = []
  get : ∀ t, a.tmps.getD t undef = f t

theorem Rel.eval {N : Nat} {f : Fr} {a : Act} (h : Rel N f a) : a.eval = ev f := by
  funext x
  cases x with
  | tmp t => exact h.get t
  | const v => rfl
  | global g => rfl
  | func k => rfl

theorem Rel.put {N : Nat} {f : Fr} {a : Act} (h : Rel N f a) (o : Option Nat) (v : Value) (hd : ∀ d, o = some d → d < N) : Rel N (updO f o v) (a.put o v) := by
  cases o with
  | none => exact h
  | some d =>
    have hd := hd d rfl
    refine ⟨by simp [Act.put, h.size], h.defers, fun t => ?_⟩
    simp only [Act.put, updO, upd]
    by_cases ht : t = d
    · subst ht
      have : t < a.tmps.size := by rw [h.size]; exact hd
      simp [this]
    · rw [beq_no ht, cond_false, ← h.get t]
      simp [Array.getElem?_setIfInBounds_ne (Ne.symm ht)]

/-- What a guard sees. -/
def yieldF (ops : Array Oper) (f : Fr) (j : Nat) : Option Bool :=
  match (ops[j]?).bind (·.dst) with
  | some d => match f d with
    | .bool b => some b
    | _ => none
  | none => none

theorem Rel.yielded {N : Nat} {f : Fr} {a : Act} (h : Rel N f a) (ops : Array Oper) : yielded ops a.tmps = yieldF ops f := by
  funext j
  unfold Go.yielded yieldF
  cases hd : (ops[j]?).bind (·.dst) with
  | none => rfl
  | some d =>
    simp only [Option.bind_some]
    rw [← h.get d]
    cases hg : a.tmps[d]? with
    | none => simp [undef, hg]
    | some v =>
      have : a.tmps.getD d undef = v := by simp [hg]
      rw [this]
      cases v <;> rfl

def opsOk (N : Nat) : List Oper → Bool
  | [] => true
  | o :: r => (match o.dst with | some d => Nat.ble (d + 1) N | none => true) && opsOk N r

def opOk (N : Nat) (o : Oper) : Prop := ∀ d, o.dst = some d → d < N

theorem opsOk_mem {N : Nat} : ∀ {l : List Oper}, opsOk N l = true → ∀ o ∈ l, opOk N o
  | [], _, o, ho => by cases ho
  | x :: r, h, o, ho => by
    unfold opsOk at h
    rw [Bool.and_eq_true] at h
    rcases List.mem_cons.1 ho with rfl | ho
    · intro d hd
      have := h.1
      rw [hd] at this
      exact Nat.lt_of_succ_le (Nat.le_of_ble_eq_true this)
    · exact opsOk_mem h.2 o ho

abbrev FPost := Exit → Fr → World → Prop

/-- A post over frames, read as one over the kit's activations. -/
def low (N : Nat) (Q : FPost) : Exit → Act → World → Prop := fun e a w => ∃ f, Rel N f a ∧ Q e f w

def wpF (P : Program) (N : Nat) (c : Code) (Q : FPost) (f : Fr) (w : World) : Prop := ∀ a, Rel N f a → c.wp P (low N Q) a w

/-- A list of operations, one behind the other. -/
def wpO (P : Program) (N : Nat) (ops : Array Oper) (Q : FPost) (l : List Oper) (f : Fr) (w : World) : Prop :=
  (∀ o ∈ l, opOk N o) → ∀ a, Rel N f a → wpList P ops (low N Q) l a w

def thenF (K : Fr → World → Prop) (Q : FPost) : FPost
  | .normal, f, w => K f w
  | e, f, w => Q e f w

def inBlockF (id : Nat) (Q : FPost) : FPost
  | .exit id', f, w => bif Nat.beq id' id then Q .normal f w else Q (.exit id') f w
  | e, f, w => Q e f w

section
variable {P : Program} {N : Nat} {Q : FPost} {f : Fr} {w : World}

theorem thenF_r {K : Fr → World → Prop} (h : Q .ret f w) : thenF K Q .ret f w := h
theorem thenF_x {K : Fr → World → Prop} {i : Nat} (h : Q (.exit i) f w) : thenF K Q (.exit i) f w := h
theorem thenF_n {K : Fr → World → Prop} (h : K f w) : thenF K Q .normal f w := h
theorem inBlockF_r {i : Nat} (h : Q .ret f w) : inBlockF i Q .ret f w := h
theorem inBlockF_x {i : Nat} (h : Q .normal f w) : inBlockF i Q (.exit i) f w := by
  show (bif Nat.beq i i then Q .normal f w else Q (.exit i) f w)
  rw [Nat.beq_refl]; exact h
theorem inBlockF_n {i : Nat} (h : Q .normal f w) : inBlockF i Q .normal f w := h

theorem wpF_mono {c : Code} {Q' : FPost} (h : wpF P N c Q f w) (hq : ∀ e f w, Q e f w → Q' e f w) : wpF P N c Q' f w :=
  fun a ha => wp_mono (h a ha) fun _ _ _ ⟨g, hg, q⟩ => ⟨g, hg, hq _ _ _ q⟩

theorem wpF_seq {x y : Code} (h : wpF P N x (thenF (wpF P N y Q) Q) f w) : wpF P N (.seq x y) Q f w := by
  intro a ha
  refine wp_seq (wp_mono (h a ha) fun e a' w' q => ?_)
  obtain ⟨g, hg, q⟩ := q
  cases e with
  | normal => exact q a' hg
  | exit id => exact ⟨g, hg, q⟩
  | goto l => exact ⟨g, hg, q⟩
  | ret => exact ⟨g, hg, q⟩
  | panic ch => exact ⟨g, hg, q⟩
  | outgrown => exact ⟨g, hg, q⟩

theorem wpF_cond {c : Operand} {x y : Code} (t : Bool) (hc : ev f c = .bool t) (ht : t = true → wpF P N x Q f w) (hf : t = false → wpF P N y Q f w) :
    wpF P N (.cond c x y) Q f w := fun a ha =>
  wp_cond_split (t := t) (by rw [ha.eval]; exact hc) (fun h => ht h a ha) (fun h => hf h a ha)

theorem wpF_true {c : Operand} {x y : Code} (hc : ev f c = .bool true) (h : wpF P N x Q f w) : wpF P N (.cond c x y) Q f w :=
  wpF_cond true hc (fun _ => h) (fun h => by cases h)

theorem wpF_false {c : Operand} {x y : Code} (hc : ev f c = .bool false) (h : wpF P N y Q f w) : wpF P N (.cond c x y) Q f w :=
  wpF_cond false hc (fun h => by cases h) (fun _ => h)

theorem wpF_skip (h : Q .normal f w) : wpF P N .skip Q f w := fun _ ha => wp_skip ⟨f, ha, h⟩
theorem wpF_label {l : Nat} (h : Q .normal f w) : wpF P N (.label l) Q f w := fun _ ha => wp_label ⟨f, ha, h⟩
theorem wpF_exit {id : Nat} (h : Q (.exit id) f w) : wpF P N (.exit id) Q f w := fun _ ha => wp_exit ⟨f, ha, h⟩
theorem wpF_ret (h : Q .ret f w) : wpF P N .ret Q f w := fun _ ha => wp_ret ⟨f, ha, h⟩

theorem wpF_block {id : Nat} {c : Code} (h : wpF P N c (inBlockF id Q) f w) : wpF P N (.block id c) Q f w := by
  intro a ha
  refine wp_block (wp_mono (h a ha) fun e a' w' q => ?_)
  obtain ⟨g, hg, q⟩ := q
  cases e with
  | exit id' =>
    simp only [Exit.inBlock]
    simp only [inBlockF] at q
    by_cases hid : id' = id
    · subst hid
      have : Nat.beq id' id' = true := Nat.beq_refl _
      rw [this] at q
      rw [if_pos rfl]
      exact ⟨g, hg, q⟩
    · rw [beq_no hid] at q
      rw [if_neg hid]
      exact ⟨g, hg, q⟩
  | normal => exact ⟨g, hg, q⟩
  | goto l => exact ⟨g, hg, q⟩
  | ret => exact ⟨g, hg, q⟩
  | panic ch => exact ⟨g, hg, q⟩
  | outgrown => exact ⟨g, hg, q⟩

/-- A loop: what holds at each round's head, and a measure that each round lowers. -/
theorem wpF_loop {c : Code} (I : Nat → Fr → World → Prop) (n : Nat) (h0 : I n f w)
    (round : ∀ n f w, I n f w → wpF P N c (thenF (fun f' w' => ∃ m, m < n ∧ I m f' w') Q) f w) : wpF P N (.loop c) Q f w := by
  intro a ha
  -- the kit's rule wants a measure of the state: the least n at which the relation holds
  have key : ∀ n f w, I n f w → ∀ a, Rel N f a → ∀ (b : Frame) (k : List Item) (cs : List Frame),
      ∃ e a' w', low N Q e a' w' ∧ Arrives P (lone (b.at a (.code c :: .inLoop c :: k)) cs w) b k cs e a' w' := by
    intro n
    induction n using Nat.strongRecOn with
    | _ n ih =>
      intro f w hI a ha b k cs
      obtain ⟨e, a₁, w₁, hq, harr⟩ := round n f w hI a ha b (.inLoop c :: k) cs
      obtain ⟨g, hg, hq⟩ := hq
      cases e with
      | normal =>
        obtain ⟨m, hm, hI'⟩ := hq
        obtain ⟨e₂, a₂, w₂, hq₂, harr₂⟩ := ih m hm g w₁ hI' a₁ hg b k cs
        exact ⟨e₂, a₂, w₂, hq₂, .of_steps (Steps.trans harr (.one step_inLoop)) harr₂⟩
      | exit id => exact ⟨_, a₁, w₁, ⟨g, hg, hq⟩, .pass (x := .inLoop c) rfl (fun _ _ => .inl (by simp)) harr⟩
      | goto l => exact ⟨_, a₁, w₁, ⟨g, hg, hq⟩, .pass (x := .inLoop c) rfl (fun _ _ => .inl (by simp)) harr⟩
      | ret => exact ⟨_, a₁, w₁, ⟨g, hg, hq⟩, .pass (x := .inLoop c) rfl (fun _ _ => .inl (by simp)) harr⟩
      | panic ch => exact ⟨_, a₁, w₁, ⟨g, hg, hq⟩, .pass (x := .inLoop c) rfl (fun _ _ => .inl (by simp)) harr⟩
      | outgrown => exact ⟨_, a₁, w₁, ⟨g, hg, hq⟩, .pass (x := .inLoop c) rfl (fun _ _ => .inl (by simp)) harr⟩
  intro b k cs
  obtain ⟨e, a', w', hq, harr⟩ := key n f w h0 a ha b k cs
  exact ⟨e, a', w', hq, .of_steps (.one step_loop) harr⟩

theorem wpF_region {id : Nat} {l : List Oper} (hok : opsOk N l = true) (h : wpO P N l.toArray Q l f w) : wpF P N (.region id l.toArray false) Q f w :=
  fun a ha => wp_region_lit (h (opsOk_mem hok) a ha)

variable {ops : Array Oper} {rest : List Oper} {o : Oper}

theorem wpO_nil (h : Q .normal f w) : wpO P N ops Q [] f w := fun _ _ ha => wpList_nil ⟨f, ha, h⟩

theorem wpO_step (K : Fr → World → Prop) (hK : ∀ f w, K f w → wpO P N ops Q rest f w)
    (h : ∀ a, Rel N f a → opOk N o → if Region.wanted o (yielded ops a.tmps) then o.wp P a w (fun a' w' => ∃ f', Rel N f' a' ∧ K f' w') (low N Q) else K (updO f o.dst undef) w) :
    wpO P N ops Q (o :: rest) f w := by
  intro hok a ha
  have h0 := h a ha (hok o (by simp))
  have hrest : ∀ o ∈ rest, opOk N o := fun x hx => hok x (by simp [hx])
  refine wpList_step fun K' hK' => ?_
  by_cases hw : Region.wanted o (yielded ops a.tmps) = true
  · rw [if_pos hw] at h0 ⊢
    refine Oper.wp_mono (fun a' w' ⟨f', hf', hk⟩ => hK' _ _ (hK _ _ hk hrest _ hf')) h0
  · rw [if_neg hw] at h0 ⊢
    exact hK' _ _ (hK _ _ h0 hrest _ (ha.put _ _ (hok o (by simp))))

theorem wpO_val_ {v : Value} {w' : World} (hg : Region.wanted o (yieldF ops f) = true) (hr : (execOp (ev f) o).run P w = .ok (.value v) w') (h : wpO P N ops Q rest (updO f o.dst v) w') :
    wpO P N ops Q (o :: rest) f w := by
  refine wpO_step _ (fun _ _ h => h) fun a ha hok => ?_
  rw [ha.yielded, if_pos hg]
  unfold Oper.wp
  rw [ha.eval, hr]
  exact ⟨_, ha.put _ _ hok, h⟩

theorem wpO_unit_ {w' : World} (hg : Region.wanted o (yieldF ops f) = true) (hr : (execOp (ev f) o).run P w = .ok .skip w') (h : wpO P N ops Q rest (updO f o.dst undef) w') :
    wpO P N ops Q (o :: rest) f w := by
  refine wpO_step _ (fun _ _ h => h) fun a ha hok => ?_
  rw [ha.yielded, if_pos hg]
  unfold Oper.wp
  rw [ha.eval, hr]
  exact ⟨_, ha.put _ _ hok, h⟩

theorem wpO_not_ (hg : Region.wanted o (yieldF ops f) = false) (h : wpO P N ops Q rest (updO f o.dst undef) w) : wpO P N ops Q (o :: rest) f w := by
  refine wpO_step _ (fun _ _ h => h) fun a ha hok => ?_
  rw [ha.yielded, hg]
  simpa using h

/-- What a call must do for the caller: it returns a value, of which R holds. -/
def Ret (R : Value → World → Prop) : Ending → World → Prop := fun e w => ∃ v, e = .returned v ∧ R v w

theorem Ret.mono {R R' : Value → World → Prop} (h : ∀ v w, R v w → R' v w) : ∀ e w, Ret R e w → Ret R' e w := fun _ _ ⟨v, he, hr⟩ => ⟨v, he, h _ _ hr⟩

/-- A call of a Go function. -/
theorem wpO_call_ {g : FuncId} {args : Array Value} {w' : World} (hg : Region.wanted o (yieldF ops f) = true) (hr : (execOp (ev f) o).run P w = .ok (.enter g args) w')
    (h : Calls P g args w' (Ret fun v w'' => wpO P N ops Q rest (updO f o.dst v) w'')) : wpO P N ops Q (o :: rest) f w := by
  refine wpO_step (wpO P N ops Q rest) (fun _ _ h => h) fun a ha hok => ?_
  rw [ha.yielded, if_pos hg]
  unfold Oper.wp
  rw [ha.eval, hr]
  refine Calls.mono h fun e w'' ⟨v, he, hv⟩ => ?_
  subst he
  exact ⟨_, ha.put _ _ hok, hv⟩

variable {d : Nat} {op : Op} {ty : TypeId} {pos : String} {af : Array Edge} {gd : Option (Nat × Bool)}

/-- An operation that yields a value. -/
theorem wpO_val {v : Value} {w' : World} (hg : Region.wanted ⟨some d, op, ty, pos, af, gd⟩ (yieldF ops f) = true) (hr : (execOp (ev f) ⟨some d, op, ty, pos, af, gd⟩).run P w = .ok (.value v) w')
    (h : wpO P N ops Q rest (upd f d v) w') : wpO P N ops Q (⟨some d, op, ty, pos, af, gd⟩ :: rest) f w := wpO_val_ hg hr h

theorem upd_id {t : Nat} {v : Value} (h : f t = v) : upd f t v = f := by
  funext x
  by_cases hx : x = t
  · subst hx; rw [upd_same, h]
  · rw [upd_ne _ _ hx]
/-- A Bool in a slot is taken apart. -/
theorem wpO_split {l : List Oper} {b : Bool} (t : Nat) (hb : f t = .bool b) (h1 : b = true → wpO P N ops Q l (upd f t (.bool true)) w) (h2 : b = false → wpO P N ops Q l (upd f t (.bool false)) w) : wpO P N ops Q l f w := by
  cases b
  · have := h2 rfl; rwa [upd_id hb] at this
  · have := h1 rfl; rwa [upd_id hb] at this

/-- One whose guard says no. -/
theorem wpO_not (hg : Region.wanted ⟨some d, op, ty, pos, af, gd⟩ (yieldF ops f) = false) (h : wpO P N ops Q rest (upd f d undef) w) :
    wpO P N ops Q (⟨some d, op, ty, pos, af, gd⟩ :: rest) f w := wpO_not_ hg h
theorem wpO_not0 (hg : Region.wanted ⟨none, op, ty, pos, af, gd⟩ (yieldF ops f) = false) (h : wpO P N ops Q rest f w) :
    wpO P N ops Q (⟨none, op, ty, pos, af, gd⟩ :: rest) f w := wpO_not_ hg h

end

/-! ### entering a function -/

/-- The frame at a function's start. -/
def argsF (args : Array Value) : Fr := fun t => args.getD t undef

/-- A function's end: its result variables are read. -/
def resF (f : Fr) (w : World) (P : Program) : ResultVar → Value → Prop
  | .tmp t, v => f t = v
  | .cell t ty, v => (do loadVar ty (← asAddr (f t))).run P w = .ok v w

def endF (P : Program) (fn : Func) (R : Value → World → Prop) : FPost
  | .normal, f, w | .ret, f, w => ∃ v, (∀ tmps : Array Value, (∀ t, tmps.getD t undef = f t) → (results fn tmps).run P w = .ok v w) ∧ R v w
  | _, _, _ => False

theorem calls_of_wpF {P : Program} {k : FuncId} {fn : Func} {c : Code} {args : Array Value} {w : World} {R : Value → World → Prop}
    (hf : P.funcs[k]? = some fn) (hb : fn.body = some c) {N : Nat} (hN : fn.ntmps = N) (hn : Nat.ble args.size N = true)
    (h : wpF P N c (endF P fn R) (argsF args) w) : Calls P k args w (Ret R) := by
  subst hN
  have hn := Nat.le_of_ble_eq_true hn
  refine calls_of_wp hf hb ?_
  refine wp_mono (h _ ⟨by simp; omega, rfl, fun t => ?_⟩) fun e a w' ⟨g, hg, q⟩ => ?_
  · simp only [argsF, Array.getD_eq_getD_getElem?]
    by_cases ht : t < args.size
    · rw [Array.getElem?_append_left ht]
    · rw [Array.getElem?_append_right (by omega)]
      have : args[t]? = none := Array.getElem?_eq_none (by omega)
      rw [this]
      simp [Array.getElem?_replicate]
      split <;> rfl
  · cases e with
    | normal =>
      obtain ⟨v, hv, hR⟩ := q
      exact ⟨hg.defers, v, hv _ hg.get, v, rfl, hR⟩
    | ret =>
      obtain ⟨v, hv, hR⟩ := q
      exact ⟨hg.defers, v, hv _ hg.get, v, rfl, hR⟩
    | exit id => exact q.elim
    | goto l => exact q.elim
    | panic ch => exact q.elim
    | outgrown => exact q.elim

end Go.Tw
