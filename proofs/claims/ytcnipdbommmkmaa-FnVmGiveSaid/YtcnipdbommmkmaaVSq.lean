/- Short forms of proofs that a printed text gives often (what holds, over a world that only made memory since): so that the text stays within a file's bounds. Conditions: none. -/
import Derived.Test.YtcnipdbommmkmaaVAl
namespace Go.Proofs.YtcnipdbommmkmaaSq
open Go.RowKit Go.Proofs.YtcnipdbommmkmaaW.PrintWords Go.Proofs.YtcnipdbommmkmaaW.PrintMore Go.Proofs.YtcnipdbommmkmaaW.PrintLast Go.Proofs.YtcnipdbommmkmaaAl
theorem bz {P Q : Prop} (h : Aside0 Q) (i : Q → P := by intro h; (with_reducible repeat (first | refine zN ?_ _ | refine zD ?_ | refine zA ?_ _)); exact h) : P := i h.out
theorem qz {P Q : Prop} (h : Aside0 Q) (i : Q → P := by intro h; (with_reducible repeat (first | apply qA | apply qN | apply qD)); exact h) : P := i h.out
theorem yb {P Q : Prop} (h : Aside0 Q) (i : Q → P := by intro h; repeat (first | (with_reducible first | exact h | apply yA | apply yN | apply yD | refine yS ?_ (Aside0.out (by assumption))) | exact h)) : P := i h.out
end Go.Proofs.YtcnipdbommmkmaaSq
