/- FnRulesMoveOfAll: the law as its row asks for it. No condition beyond the statement's. -/
import Derived.Test.YtaidpalamhmghaaDoorRuLL
namespace Go.Proofs.YtaidpalamhmghaaDoor.X
open Go.Proofs
theorem lawRulesMoveOfAllRow_spec (w : Tx) (hw : w.length ≤ 9223372036854775807) (o1 b1 l1 : Bool) (v : Tx) (hv : v.length ≤ 9223372036854775807) (a b : Int) (o2 b2 l2 : Bool) (x : Tx) (hx : x.length ≤ 9223372036854775807) (ob : Obj) (L : List Mv) (hL : L.length ≤ 9223372036854775807)
    (o3 b3 l3 o4 b4 l4 : Bool) (t : Tx) (ht : t.length ≤ 9223372036854775807) :
    Spec Tryd.prog 4 [.c (.str w), .agg [.bool o1, .bool b1, .bool l1], .c (.str v), .agg [.int .i64 a, .int .i64 b], .agg [.bool o2, .bool b2, .bool l2], .c (.str x), .c (.sl 1000), .agg [.bool o3, .bool b3, .bool l3], .agg [.bool o4, .bool b4, .bool l4], .c (.str t)] [(1000, .ro ob 33 2 (mvE L))]
      (isRes [vb true] [(1000, .ro ob 33 2 (mvE L))]) := lawRulesMoveOfAll_spec w o1 b1 l1 v (a, b) o2 b2 l2 x L ob o3 b3 l3 o4 b4 l4 t hw hv hx hL ht
end Go.Proofs.YtaidpalamhmghaaDoor.X
