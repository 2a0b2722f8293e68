/- Contracts of the walked functions, printed by this session's own copy of the print: each says that the machine's call answers as its Lean function does; conditions stand in each statement. -/
import Derived.Test.YtfaibifilpfikaaGreatDoorA0
import Derived.Test.YtfaibifilpfikaaGreatDoorA1
import Derived.Test.YtfaibifilpfikaaGreatDoorA2
namespace Go.Proofs.YtfaibifilpfikaaGreatDoor.A
open Go.RowKit Go.Proofs.YtfaibifilpfikaaGreatDoorW.PrintWords Go.Proofs.YtfaibifilpfikaaGreatDoorW.PrintLast Go.Proofs.YtfaibifilpfikaaGreatDoorW.PrintMore
attribute [local go_sem] max2_int min2_int max_two min_two max_three min_three max_four min_four   -- for this text's walks alone
set_option linter.unusedVariables false
set_option linter.unusedSimpArgs false

end Go.Proofs.YtfaibifilpfikaaGreatDoor.A
