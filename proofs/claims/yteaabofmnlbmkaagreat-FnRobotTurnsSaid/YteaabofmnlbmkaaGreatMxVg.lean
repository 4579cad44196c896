/- Plain words: turned and mirrored crowds of up to 9 places. -/
import Derived.Test.YteaabofmnlbmkaaGreatMxRh
set_option linter.all false
namespace Sx
set_option maxRecDepth 100000
theorem turn3 : turnAll 3 = true := by decide +kernel
theorem turn4 : turnAll 4 = true := by decide +kernel
theorem turn5 : turnAll 5 = true := by decide +kernel
theorem turn6 : turnAll 6 = true := by decide +kernel
theorem turn7 : turnAll 7 = true := by decide +kernel
theorem turn8 : turnAll 8 = true := by decide +kernel
theorem turn9 : turnAll 9 = true := by decide +kernel
end Sx
/- Plain words: turned and mirrored crowds of 10 places. -/
namespace Sx
set_option maxRecDepth 100000
theorem turn10 : turnAll 10 = true := by decide +kernel
end Sx
