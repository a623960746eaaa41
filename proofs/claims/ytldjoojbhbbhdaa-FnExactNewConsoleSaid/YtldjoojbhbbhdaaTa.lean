/-
  Plain law: NewConsole: it takes no argument, so that its law is one computation. No condition.
-/
import Derived.Test.YtldjoojbhbbhdaaNf
import Derived.Test.YtldjoojbhbbhdaaVi33
namespace Go.Vi
theorem law_FnExactNewConsole : f_laws_FnExactNewConsole = some true := by kernel_rfl
end Go.Vi
