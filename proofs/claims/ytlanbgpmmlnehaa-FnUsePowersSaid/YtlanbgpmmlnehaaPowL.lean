/- The powers: the drawn laws. -/
import Derived.Test.YtlanbgpmmlnehaaPowD
import Derived.Test.YtlanbgpmmlnehaaPow2
set_option linter.unusedSimpArgs false
set_option linter.unusedVariables false
set_option linter.unusedSectionVars false
namespace Go.Proofs.Ytlanbgpmmlnehaa
open Go.RowKit

def P1 (e : Ending) : Prop := ∃ m c i b : Int, e = .returned (.agg #[.int .i64 m, .int .i64 c, .int .i64 i, .int .i64 b])
def P2 (e : Ending) : Prop := ∃ m c i b g : Int, e = .returned (.tuple #[.agg #[.int .i64 m, .int .i64 c, .int .i64 i, .int .i64 b], .int .i64 g])
def P4 (e : Ending) : Prop := ∃ (m c i b g h : Int) (u : Bool), e = .returned (.tuple #[.agg #[.int .i64 m, .int .i64 c, .int .i64 i, .int .i64 b], .int .i64 g, .int .i64 h, .bool u])
end Go.Proofs.Ytlanbgpmmlnehaa
