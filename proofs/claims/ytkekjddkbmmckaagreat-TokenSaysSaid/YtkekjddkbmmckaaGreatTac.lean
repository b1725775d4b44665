/- The world of a goal under one name. Of whatever program. -/
import Derived.Test.YtkekjddkbmmckaaGreatMem
namespace Go.Mh

theorem name_world {P : World → Prop} {w : World} (h : ∀ w', w = w' → P w') : P w := h w rfl

end Go.Mh
