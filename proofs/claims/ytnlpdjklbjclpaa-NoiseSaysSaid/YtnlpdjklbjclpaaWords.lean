/- Small words for the printed walks. -/
import Derived.Test.YtnlpdjklbjclpaaWMore
namespace Go.Proofs.Ytnlpdjklbjclpaa
open Go.RowKit
theorem setCell_drewN (w : World) (n : Nat) (a : Addr) (v : Value) : (w.drewN n).setCell a v = (w.setCell a v).drewN n := rfl
end Go.Proofs.Ytnlpdjklbjclpaa
