/- Plain words: turned and mirrored crowds of 12 places with one at 0. -/
import Derived.Test.YteaabofmnlbmkaaMxRh
set_option linter.all false
namespace Sx
set_option maxRecDepth 100000
end Sx
/- Plain words: turned and mirrored crowds of 12 places with none at 0. -/
namespace Sx
set_option maxRecDepth 100000
end Sx
