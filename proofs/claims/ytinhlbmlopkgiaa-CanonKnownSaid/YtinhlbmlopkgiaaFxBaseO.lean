import Derived.Test.YtinhlbmlopkgiaaFxBase
namespace Go.Proofs.Ytinhlbmlopkgiaa
open Go.Fv Go.Proofs
noncomputable def baseO : OraM := baseOf [(57, compareO)]
end Go.Proofs.Ytinhlbmlopkgiaa
