/- Plain words: turned and mirrored crowds of 11 places. -/
import Derived.Test.YteaabofmnlbmkaaMxRh
set_option linter.all false
namespace Sx
set_option maxRecDepth 100000
end Sx
