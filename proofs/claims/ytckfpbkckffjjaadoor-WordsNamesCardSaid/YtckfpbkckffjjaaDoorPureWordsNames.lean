/- WordsNames: every step of it is closed: the kernel reckons it. -/
import Derived.Test.YtckfpbkckffjjaaDoorXx9
namespace Go.Proofs.YtckfpbkckffjjaaDoor.Pure
open Go.RowKit Go.Proofs.YtckfpbkckffjjaaDoor.X Go.Proofs.YtckfpbkckffjjaaDoorW.PrintWords Go.Proofs.YtckfpbkckffjjaaDoorW.PrintLast
set_option maxRecDepth 100000 in
theorem WordsNames : bastionlaw02_WordsNames.Pure := ⟨2000, by decide +kernel⟩
end Go.Proofs.YtckfpbkckffjjaaDoor.Pure
