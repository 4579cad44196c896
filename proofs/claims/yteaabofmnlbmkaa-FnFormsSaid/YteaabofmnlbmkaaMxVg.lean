/- Plain words: turned and mirrored crowds of up to 9 places. -/
import Derived.Test.YteaabofmnlbmkaaMxRh
set_option linter.all false
namespace Sx
set_option maxRecDepth 100000
end Sx
/- Plain words: turned and mirrored crowds of 10 places. -/
namespace Sx
set_option maxRecDepth 100000
end Sx
