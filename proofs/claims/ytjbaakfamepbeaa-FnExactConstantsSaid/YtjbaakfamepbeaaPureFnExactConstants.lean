/- The pure statement of the law FnExactConstants: the printed law answers true. No condition. -/
import Derived.Test.YtjbaakfamepbeaaPFnExactConstantsx1
namespace Go.Proofs.Ytjbaakfamepbeaa.Pure
open Go.RowKit Go.Proofs.Ytjbaakfamepbeaa.PFnExactConstants Go.Proofs.YtjbaakfamepbeaaW.PrintWords Go.Proofs.YtjbaakfamepbeaaW.PrintLast

theorem FnExactConstants : laws_FnExactConstants.Pure := rfl

end Go.Proofs.Ytjbaakfamepbeaa.Pure
