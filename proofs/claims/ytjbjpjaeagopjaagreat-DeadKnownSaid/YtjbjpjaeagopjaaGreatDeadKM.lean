/- The law, run: its answer is true. -/
import Derived.Test.YtjbjpjaeagopjaaGreatDeadK1
import Derived.Test.YtjbjpjaeagopjaaGreatDeadK2
import Derived.Test.YtjbjpjaeagopjaaGreatDeadK3
import Derived.Test.YtjbjpjaeagopjaaGreatDeadK4
import Derived.Test.YtjbjpjaeagopjaaGreatDeadK5
namespace Go.Proofs.YtjbjpjaeagopjaaGreat.Dead
open Go Go.RowKit Go.Proofs.YtjbjpjaeagopjaaGreat.Ev
def tab : Tab := [(6, a1, .bool true), (6, a2, .bool true), (6, a3, .bool true), (6, a4, .bool true), (6, a5, .bool true)]
theorem none_ok : TabOk Tryz.prog [] := fun x hx => by cases hx
theorem tab_ok : TabOk Tryz.prog tab := fun x hx => by
  simp only [tab, List.mem_cons, List.not_mem_nil, or_false] at hx
  rcases hx with rfl | rfl | rfl | rfl | rfl
  · exact ⟨_, _, rfl, rfl, calls_of_ev none_ok mixed (fnsOk_of 307 fns) (l := a1) rfl isT_flat k1⟩
  · exact ⟨_, _, rfl, rfl, calls_of_ev none_ok mixed (fnsOk_of 307 fns) (l := a2) rfl isT_flat k2⟩
  · exact ⟨_, _, rfl, rfl, calls_of_ev none_ok mixed (fnsOk_of 307 fns) (l := a3) rfl isT_flat k3⟩
  · exact ⟨_, _, rfl, rfl, calls_of_ev none_ok mixed (fnsOk_of 307 fns) (l := a4) rfl isT_flat k4⟩
  · exact ⟨_, _, rfl, rfl, calls_of_ev none_ok mixed (fnsOk_of 307 fns) (l := a5) rfl isT_flat k5⟩
set_option maxRecDepth 1000000 in
theorem run : evCall Tryz.prog 307 100000 tab 60 3 [] ⟨.e, 0, 0, 0⟩ (fun sv _ => isT sv) = true := by kernel_rfl
theorem known (w : World) : Calls Tryz.prog 3 #[] w fun e w' => e = .returned (.bool true) ∧ Below w.heap.size w w' :=
  calls_of_ev tab_ok mixed (fnsOk_of 307 fns) (l := []) rfl isT_flat run w
end Go.Proofs.YtjbjpjaeagopjaaGreat.Dead
