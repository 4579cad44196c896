/- Plain words: crowds of 12 places with one at 0, one by one. -/
import Derived.Test.YteaabofmnlbmkaaMxVa
set_option linter.all false
namespace Sx
set_option maxRecDepth 100000
end Sx
