/- Short names for lemmas that a printed text uses often: so that the text stays within a file's bounds. Conditions: none. -/
import Derived.Test.YtcnipdbommmkmaaVWords
import Derived.Test.YtcnipdbommmkmaaVMore
import Derived.Test.YtcnipdbommmkmaaVLast
namespace Go.Proofs.YtcnipdbommmkmaaAl
open Go.RowKit Go.Proofs.YtcnipdbommmkmaaW.PrintWords Go.Proofs.YtcnipdbommmkmaaW.PrintMore Go.Proofs.YtcnipdbommmkmaaW.PrintLast
theorem qA : type_of% @Kd.R_alloc := @Kd.R_alloc
theorem qN : type_of% @Kd.R_drewN := @Kd.R_drewN
theorem qD : type_of% @Kd.R_drew := @Kd.R_drew
theorem qF : type_of% @Kd.R_far := @Kd.R_far
theorem qR : type_of% @Kd.R_reads' := @Kd.R_reads'
theorem qM : type_of% @Aside0.mk := @Aside0.mk
theorem yN : type_of% @pw_below_drewN := @pw_below_drewN
theorem yA : type_of% @below_alloc := @below_alloc
theorem yD : type_of% @below_drew1 := @below_drew1
theorem yS : type_of% @below_set := @below_set
theorem zN : type_of% @blk_drewN := @blk_drewN
theorem zA : type_of% @blk_alloc := @blk_alloc
theorem zD : type_of% @blk_drew := @blk_drew
theorem zF : type_of% @blk_frozen := @blk_frozen
theorem zC : type_of% @blk_cell := @blk_cell
end Go.Proofs.YtcnipdbommmkmaaAl
