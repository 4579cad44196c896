/- Plain words: the views of turned and mirrored crowds. -/
import Derived.Test.YteaabofmnlbmkaaMxVa
set_option linter.all false
namespace Sx
/-- Each robot's view and way, behind a turn by one and in the mirror. -/
def factT (n : Nat) (l : List Int) : Bool := (List.range l.length).all fun i =>
  (viewL n (trn n 1 l) ((trn n 1 l).idxOf ((l.getD i 0 + 1) % n)) == viewL n l i && wayL n (trn n 1 l) ((trn n 1 l).idxOf ((l.getD i 0 + 1) % n)) == wayL n l i) &&
  (viewL n (mir n l) ((mir n l).idxOf (n - 1 - l.getD i 0)) == viewL n l i && wayL n (mir n l) ((mir n l).idxOf (n - 1 - l.getD i 0)) == - wayL n l i)
def turnAll (n : Nat) : Bool := (allC n n 6).all fun l => factT n l
end Sx
