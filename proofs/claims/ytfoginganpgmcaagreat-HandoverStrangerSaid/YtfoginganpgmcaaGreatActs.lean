/- The acts of layer 15. -/
import Derived.Test.YtfoginganpgmcaaGreatBks
set_option linter.unusedSimpArgs false
set_option linter.unusedVariables false
namespace Go.Tw
open Go
structure BAct where
  do_ : IK .i64
  s : SaleP
  d : DocP
  k : Key
  o : Own
  h : Held
def BAct.v (a : BAct) : Value := .agg #[a.do_.v, strV a.s.name, a.s.legs.v, a.s.fare.v, a.s.taxes.v, a.s.pen.v,
  a.d.t.car.v, a.d.t.ser.v, strV a.d.s.name, a.d.s.legs.v, a.d.s.fare.v, a.d.s.taxes.v, a.d.s.pen.v, a.d.vals.v, a.d.fr.car.v, a.d.fr.ser.v, a.d.to.car.v, a.d.to.ser.v, a.d.credit.v, a.d.paid.v, a.d.back.v, a.d.kept.v, a.d.left.v,
  a.k.t.car.v, a.k.t.ser.v, a.k.i.v,
  a.o.c.leg.car.v, a.o.c.leg.fl.v, a.o.c.leg.wt.v, a.o.c.val.v, a.o.c.st.v, a.o.c.non.v, .bool a.o.away, a.o.to.v, .bool a.o.paid, .bool a.o.asked,
  a.h.c.leg.car.v, a.h.c.leg.fl.v, a.h.c.leg.wt.v, a.h.c.val.v, a.h.c.st.v, a.h.c.non.v, .bool a.h.here, .bool a.h.paid, .bool a.h.wanted, .bool a.h.billed]
/-- Acts that came in: what lies behind their sales. -/
def ActsR (g : Heap) (s : Sl) (xs : List BAct) : Prop := SlR g BAct.v 46 s xs ∧ ∀ x ∈ xs, ∃ legs taxes, SaleR g x.s legs taxes
end Go.Tw
