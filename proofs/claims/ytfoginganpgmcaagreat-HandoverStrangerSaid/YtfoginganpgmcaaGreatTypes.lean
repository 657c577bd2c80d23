/- The program's data, as plain Lean data, and how they lie in values. -/
import Derived.Test.YtfoginganpgmcaaGreatCoreM
import Derived.Test.YtfoginganpgmcaaGreatChecked
set_option linter.unusedSimpArgs false
set_option linter.unusedVariables false
namespace Go.Tw
open Go

/-- A whole number of a kind. -/
structure IK (k : IntKind) where
  n : Int
  lo : k.min ≤ n
  hi : n ≤ k.max
  deriving DecidableEq

def IK.v {k : IntKind} (x : IK k) : Value := .int k x.n
def IK.of (k : IntKind) (n : Int) : IK k := ⟨k.wrap n, (wrap_within k n).1, (wrap_within k n).2⟩
theorem IK.ext' {k : IntKind} {x y : IK k} (h : x.n = y.n) : x = y := by cases x; cases y; simp at h; subst h; rfl
theorem IK.n_inj {k : IntKind} {x y : IK k} : x.n = y.n ↔ x = y := ⟨IK.ext', fun h => by rw [h]⟩
theorem IK.wrap_n {k : IntKind} (x : IK k) : k.wrap x.n = x.n := by
  have h1 := x.lo
  have h2 := x.hi
  cases k <;> simp [IntKind.min, IntKind.max, IntKind.signed, IntKind.bits] at h1 h2 <;> simp [IntKind.wrap, IntKind.signed, IntKind.bits] <;> omega
theorem IK.u8 (x : IK .u8) : 0 ≤ x.n ∧ x.n ≤ 255 := by have := x.lo; have := x.hi; simp [IntKind.min, IntKind.max, IntKind.signed, IntKind.bits] at *; omega
theorem IK.u16 (x : IK .u16) : 0 ≤ x.n ∧ x.n ≤ 65535 := by have := x.lo; have := x.hi; simp [IntKind.min, IntKind.max, IntKind.signed, IntKind.bits] at *; omega
theorem IK.u32 (x : IK .u32) : 0 ≤ x.n ∧ x.n ≤ 4294967295 := by have := x.lo; have := x.hi; simp [IntKind.min, IntKind.max, IntKind.signed, IntKind.bits] at *; omega
theorem IK.u64 (x : IK .u64) : 0 ≤ x.n ∧ x.n ≤ 18446744073709551615 := by have := x.lo; have := x.hi; simp [IntKind.min, IntKind.max, IntKind.signed, IntKind.bits] at *; omega
theorem IK.i64 (x : IK .i64) : -9223372036854775808 ≤ x.n ∧ x.n ≤ 9223372036854775807 := by have := x.lo; have := x.hi; simp [IntKind.min, IntKind.max, IntKind.signed, IntKind.bits] at *; omega

structure Ticket where
  car : IK .u8
  ser : IK .u64
  deriving DecidableEq
def Ticket.v (t : Ticket) : Value := .agg #[t.car.v, t.ser.v]

structure Key where
  t : Ticket
  i : IK .u8
  deriving DecidableEq
def Key.v (k : Key) : Value := .agg #[k.t.car.v, k.t.ser.v, k.i.v]

structure Leg where
  car : IK .u8
  fl : IK .u16
  wt : IK .u32
  deriving DecidableEq
def Leg.v (l : Leg) : Value := .agg #[l.car.v, l.fl.v, l.wt.v]

structure Coupon where
  leg : Leg
  val : IK .i64
  st : IK .u8
  non : IK .u32
  deriving DecidableEq
def Coupon.v (c : Coupon) : Value := .agg #[c.leg.car.v, c.leg.fl.v, c.leg.wt.v, c.val.v, c.st.v, c.non.v]

structure Own where
  c : Coupon
  away : Bool
  to : IK .u8
  paid : Bool
  asked : Bool
  deriving DecidableEq
def Own.v (o : Own) : Value := .agg #[o.c.leg.car.v, o.c.leg.fl.v, o.c.leg.wt.v, o.c.val.v, o.c.st.v, o.c.non.v, .bool o.away, o.to.v, .bool o.paid, .bool o.asked]

structure Held where
  c : Coupon
  here : Bool
  paid : Bool
  wanted : Bool
  billed : Bool
  deriving DecidableEq
def Held.v (h : Held) : Value := .agg #[h.c.leg.car.v, h.c.leg.fl.v, h.c.leg.wt.v, h.c.val.v, h.c.st.v, h.c.non.v, .bool h.here, .bool h.paid, .bool h.wanted, .bool h.billed]

structure Msg where
  kind : IK .u8
  key : Key
  c : Coupon
  amt : IK .i64
  code : IK .i64
  deriving DecidableEq
def Msg.v (m : Msg) : Value := .agg #[m.kind.v, m.key.t.car.v, m.key.t.ser.v, m.key.i.v, m.c.leg.car.v, m.c.leg.fl.v, m.c.leg.wt.v, m.c.val.v, m.c.st.v, m.c.non.v, m.amt.v, m.code.v]

/-- A text. -/
def strV (s : List UInt8) : Value := .string ⟨s.toArray⟩
theorem toList_loop (a : ByteArray) : ∀ (n i : Nat) (r : List UInt8), a.size - i = n → ByteArray.toList.loop a i r = r.reverse ++ a.data.toList.drop i := by
  intro n
  induction n with
  | zero =>
    intro i r h
    unfold ByteArray.toList.loop
    have h2 : a.data.toList.length ≤ i := by
      have : a.data.toList.length = a.size := Array.length_toList
      omega
    rw [if_neg (by omega), List.drop_of_length_le h2, List.append_nil]
  | succ n ih =>
    intro i r h
    unfold ByteArray.toList.loop
    have hi : i < a.data.toList.length := by
      have : a.data.toList.length = a.size := Array.length_toList
      omega
    rw [if_pos (by omega), ih (i + 1) _ (by omega), List.drop_eq_getElem_cons hi]
    have h3 : i < a.data.size := by simpa using hi
    have : a.get! i = a.data.toList[i] := by
      simp [ByteArray.get!, getElem!_def]
      rw [Array.getElem?_eq_getElem h3]
    rw [this]
    simp
theorem toList_mk (l : List UInt8) : ByteArray.toList ⟨l.toArray⟩ = l := by
  unfold ByteArray.toList
  rw [toList_loop _ _ 0 [] rfl]
  simp
theorem strV_of (a : ByteArray) : Value.string a = strV a.data.toList := by simp [strV]

structure Tax where
  code : List UInt8
  amt : IK .i64
  deriving DecidableEq
def Tax.v (t : Tax) : Value := .agg #[strV t.code, t.amt.v]

/-! '==' at these types -/
section
theorem equalIn_int {P : Program} {T : TypeId} {k : IntKind} (d : Nat) (hT : P.underlying T = some (.int k)) (a b : IK k) (w : World) : (Op.equalIn (d + 1) T a.v b.v).run P w = .ok (decide (a = b)) w := by
  have : (a.n == b.n) = decide (a = b) := by
    rw [Bool.eq_iff_iff]; simp [IK.n_inj]
  simp [Op.equalIn, IK.v, run_und hT, this]
theorem equalIn_bool {P : Program} {T : TypeId} (d : Nat) (hT : P.underlying T = some .bool) (a b : Bool) (w : World) : (Op.equalIn (d + 1) T (.bool a) (.bool b)).run P w = .ok (decide (a = b)) w := by
  have : (a == b) = decide (a = b) := by cases a <;> cases b <;> rfl
  simp [Op.equalIn, run_und hT, this]
theorem chk_int {P : Program} {T : TypeId} {k : IntKind} (e : Bool) (d : Nat) (hT : P.underlying T = some (.int k)) (a : IK k) (w : World) : (Instr.checkKey e (d + 1) T a.v).run P w = .ok () w := by
  simp [Instr.checkKey, IK.v, run_und hT]
end

end Go.Tw
namespace Go.Proofs.YtfoginganpgmcaaGreat
open Go.Tw



theorem eqInTicket (d : Nat) (a b : Ticket) (w : World) : (Op.equalIn (d + 2) 25 a.v b.v).run Tryz.prog w = .ok (decide (a = b)) w := by
  have e : d + 2 = (d + 1) + 1 := rfl
  rw [e]
  unfold Ticket.v
  rw [run_equalIn_struct (P := Tryz.prog) w (d + 1) 25 _ _ (by simp [Program.fieldsOf]) (by simp)]
  simp [Program.fieldsOf, Op.eqFields, part, equalIn_int]
  obtain ⟨a1, a2⟩ := a
  obtain ⟨b1, b2⟩ := b
  by_cases h1 : a1 = b1 <;> by_cases h2 : a2 = b2 <;> simp [h1, h2]
theorem eqTicket : EqLaw Tryz.prog 25 Ticket.v := fun a b w => eqInTicket 9998 a b w

theorem eqInLeg (d : Nat) (a b : Leg) (w : World) : (Op.equalIn (d + 2) 31 a.v b.v).run Tryz.prog w = .ok (decide (a = b)) w := by
  have e : d + 2 = (d + 1) + 1 := rfl
  rw [e]
  unfold Leg.v
  rw [run_equalIn_struct (P := Tryz.prog) w (d + 1) 31 _ _ (by simp [Program.fieldsOf]) (by simp)]
  simp [Program.fieldsOf, Op.eqFields, part, equalIn_int]
  obtain ⟨a1, a2, a3⟩ := a
  obtain ⟨b1, b2, b3⟩ := b
  by_cases h1 : a1 = b1 <;> by_cases h2 : a2 = b2 <;> by_cases h3 : a3 = b3 <;> simp [h1, h2, h3]
theorem eqLeg : EqLaw Tryz.prog 31 Leg.v := fun a b w => eqInLeg 9998 a b w

theorem eqInKey (d : Nat) (a b : Key) (w : World) : (Op.equalIn (d + 3) 27 a.v b.v).run Tryz.prog w = .ok (decide (a = b)) w := by
  have e : d + 3 = (d + 2) + 1 := rfl
  rw [e]
  unfold Key.v
  rw [run_equalIn_struct (P := Tryz.prog) w (d + 2) 27 _ _ (by simp [Program.fieldsOf]) (by simp)]
  have h1 := fun w => eqInTicket d a.t b.t w
  unfold Ticket.v at h1
  simp [Program.fieldsOf, Op.eqFields, part, equalIn_int, h1]
  obtain ⟨a1, a2⟩ := a
  obtain ⟨b1, b2⟩ := b
  by_cases h1 : a1 = b1 <;> by_cases h2 : a2 = b2 <;> simp [h1, h2]
theorem eqKey : EqLaw Tryz.prog 27 Key.v := fun a b w => eqInKey 9997 a b w

theorem eqInCoupon (d : Nat) (a b : Coupon) (w : World) : (Op.equalIn (d + 3) 34 a.v b.v).run Tryz.prog w = .ok (decide (a = b)) w := by
  have e : d + 3 = (d + 2) + 1 := rfl
  rw [e]
  unfold Coupon.v
  rw [run_equalIn_struct (P := Tryz.prog) w (d + 2) 34 _ _ (by simp [Program.fieldsOf]) (by simp)]
  have h1 := fun w => eqInLeg d a.leg b.leg w
  unfold Leg.v at h1
  simp [Program.fieldsOf, Op.eqFields, part, equalIn_int, h1]
  obtain ⟨a1, a2, a3, a4⟩ := a
  obtain ⟨b1, b2, b3, b4⟩ := b
  by_cases h1 : a1 = b1 <;> by_cases h2 : a2 = b2 <;> by_cases h3 : a3 = b3 <;> by_cases h4 : a4 = b4 <;> simp [h1, h2, h3, h4]
theorem eqCoupon : EqLaw Tryz.prog 34 Coupon.v := fun a b w => eqInCoupon 9997 a b w

theorem eqInOwn (d : Nat) (a b : Own) (w : World) : (Op.equalIn (d + 4) 43 a.v b.v).run Tryz.prog w = .ok (decide (a = b)) w := by
  have e : d + 4 = (d + 3) + 1 := rfl
  rw [e]
  unfold Own.v
  rw [run_equalIn_struct (P := Tryz.prog) w (d + 3) 43 _ _ (by simp [Program.fieldsOf]) (by simp)]
  have h1 := fun w => eqInCoupon d a.c b.c w
  unfold Coupon.v at h1
  simp [Program.fieldsOf, Op.eqFields, part, equalIn_int, equalIn_bool, h1]
  obtain ⟨a1, a2, a3, a4, a5⟩ := a
  obtain ⟨b1, b2, b3, b4, b5⟩ := b
  by_cases h1 : a1 = b1 <;> by_cases h2 : a2 = b2 <;> by_cases h3 : a3 = b3 <;> by_cases h4 : a4 = b4 <;> by_cases h5 : a5 = b5 <;> simp [h1, h2, h3, h4, h5]
theorem eqOwn : EqLaw Tryz.prog 43 Own.v := fun a b w => eqInOwn 9996 a b w

theorem eqInHeld (d : Nat) (a b : Held) (w : World) : (Op.equalIn (d + 4) 64 a.v b.v).run Tryz.prog w = .ok (decide (a = b)) w := by
  have e : d + 4 = (d + 3) + 1 := rfl
  rw [e]
  unfold Held.v
  rw [run_equalIn_struct (P := Tryz.prog) w (d + 3) 64 _ _ (by simp [Program.fieldsOf]) (by simp)]
  have h1 := fun w => eqInCoupon d a.c b.c w
  unfold Coupon.v at h1
  simp [Program.fieldsOf, Op.eqFields, part, equalIn_int, equalIn_bool, h1]
  obtain ⟨a1, a2, a3, a4, a5⟩ := a
  obtain ⟨b1, b2, b3, b4, b5⟩ := b
  by_cases h1 : a1 = b1 <;> by_cases h2 : a2 = b2 <;> by_cases h3 : a3 = b3 <;> by_cases h4 : a4 = b4 <;> by_cases h5 : a5 = b5 <;> simp [h1, h2, h3, h4, h5]
theorem eqHeld : EqLaw Tryz.prog 64 Held.v := fun a b w => eqInHeld 9996 a b w

theorem eqInMsg (d : Nat) (a b : Msg) (w : World) : (Op.equalIn (d + 4) 51 a.v b.v).run Tryz.prog w = .ok (decide (a = b)) w := by
  have e : d + 4 = (d + 3) + 1 := rfl
  rw [e]
  unfold Msg.v
  rw [run_equalIn_struct (P := Tryz.prog) w (d + 3) 51 _ _ (by simp [Program.fieldsOf]) (by simp)]
  have h1 := fun w => eqInKey d a.key b.key w
  have h2 := fun w => eqInCoupon d a.c b.c w
  unfold Coupon.v at h2
  unfold Key.v at h1
  simp [Program.fieldsOf, Op.eqFields, part, equalIn_int, equalIn_bool, h1, h2]
  obtain ⟨a1, a2, a3, a4, a5⟩ := a
  obtain ⟨b1, b2, b3, b4, b5⟩ := b
  by_cases h1 : a1 = b1 <;> by_cases h2 : a2 = b2 <;> by_cases h3 : a3 = b3 <;> by_cases h4 : a4 = b4 <;> by_cases h5 : a5 = b5 <;> simp [h1, h2, h3, h4, h5]
theorem eqMsg : EqLaw Tryz.prog 51 Msg.v := fun a b w => eqInMsg 9996 a b w

theorem chkTicket (e : Bool) (d : Nat) (a : Ticket) (w : World) : (Instr.checkKey e (d + 2) 25 a.v).run Tryz.prog w = .ok () w := by
  unfold Ticket.v Instr.checkKey
  simp [part, chk_int]
theorem chkKey (e : Bool) (d : Nat) (a : Key) (w : World) : (Instr.checkKey e (d + 3) 27 a.v).run Tryz.prog w = .ok () w := by
  have h1 := fun w => chkTicket e d a.t w
  unfold Ticket.v at h1
  unfold Key.v Instr.checkKey
  simp [part, chk_int, h1]
theorem keyTicket : KeyLaw Tryz.prog 25 Ticket.v where
  chk e a w := chkTicket e 9998 a w
  und := ⟨_, Tryz.underlying25, .inl fun a b => rfl⟩
  eq := eqTicket
  same a := by
    unfold Ticket.v Instr.sameBits
    simp [IK.v, Instr.sameBits]
theorem keyKey : KeyLaw Tryz.prog 27 Key.v where
  chk e a w := chkKey e 9997 a w
  und := ⟨_, Tryz.underlying27, .inl fun a b => rfl⟩
  eq := eqKey
  same a := by
    unfold Key.v Instr.sameBits
    simp [IK.v, Instr.sameBits]
end Go.Proofs.YtfoginganpgmcaaGreat
