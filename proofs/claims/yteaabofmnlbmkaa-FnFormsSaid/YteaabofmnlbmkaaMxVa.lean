/- Plain words: crowds of up to 9 places, one by one. -/
import Derived.Test.YteaabofmnlbmkaaMxA
set_option linter.all false
namespace Sx
set_option maxRecDepth 100000
end Sx
/- Plain words: crowds of 10 places, one by one. -/
namespace Sx
set_option maxRecDepth 100000
end Sx
