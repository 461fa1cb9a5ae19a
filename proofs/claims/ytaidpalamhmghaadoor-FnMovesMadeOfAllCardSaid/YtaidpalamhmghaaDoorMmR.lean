/- FnMovesMadeOfAll: the law as its row asks for it. No condition beyond the statement's. -/
import Derived.Test.YtaidpalamhmghaaDoorMmL
namespace Go.Proofs.YtaidpalamhmghaaDoor.X
open Go.Proofs
theorem lawMovesMadeOfAllRow_spec (w : Tx) (hw : w.length ≤ 9223372036854775807) (v : Tx) (hv : v.length ≤ 9223372036854775807) (a b : Int) :
    Spec Tryd.prog 7 [.c (.str w), .c (.str v), .agg [.int .i64 a, .int .i64 b]] [] (isRes [vb true] []) := lawMovesMadeOfAll_spec w v (a, b) hw hv
end Go.Proofs.YtaidpalamhmghaaDoor.X
