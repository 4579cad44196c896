/- Plain words: crowds of 11 places, one by one. -/
import Derived.Test.YteaabofmnlbmkaaMxVa
set_option linter.all false
namespace Sx
set_option maxRecDepth 100000
end Sx
