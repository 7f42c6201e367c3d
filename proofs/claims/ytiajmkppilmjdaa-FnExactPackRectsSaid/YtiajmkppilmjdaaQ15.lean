import Derived.Test.YtiajmkppilmjdaaQ14
import Derived.Test.YtiajmkppilmjdaaQ9
namespace Go.Proofs.Ytiajmkppilmjdaa
end Go.Proofs.Ytiajmkppilmjdaa
