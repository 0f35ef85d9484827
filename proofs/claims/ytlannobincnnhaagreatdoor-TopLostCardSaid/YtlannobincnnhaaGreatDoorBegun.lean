/-
  No claim by itself: the laws' first lines tell true. No condition.
-/
import Derived.Test.YtlannobincnnhaaGreatDoorTG3
namespace Go.Proofs.YtlannobincnnhaaGreatDoor
set_option linter.unusedVariables false
theorem begun_eval : s4 [] h00 (fun y _ => isT y) = true := by kernel_rfl
theorem begun_true (w : World) : Calls Tryz.prog 4 #[] w fun e w' => e = .returned (.bool true) ∧ Go.RowKit.Below w.heap.size w w' := d4.true0 .nil begun_eval w
theorem rest_true {P : Program} {T : Tbl} {M : List (Nat × Nat)} (hm : P.follows .mixedOrders = true) (hT : SoundT P T) {fn : Func} {N : Nat} {rs : List ResultVar} {c : Code} {ann : Ann} {env : List AV} {a : Act} (hN : fn.ntmps = N) (hr : fn.results.toList = rs) (en : Env r00 1 env a) (hl : env.length = N) {X : Bool}
    (hX : X = den P T M N c ann (retK P rs fun y _ => isT y) env h00) (hk : X = true) {w0 w : World} (hw : Go.RowKit.Below w0.heap.size w0 w) :
    c.wp P (bodyPost P fn fun e w' => e = .returned (.bool true) ∧ Go.RowKit.Below w0.heap.size w0 w') a w := by
  subst hN hr
  rw [hX] at hk
  exact rest_sound hm hT en hl hk hw
end Go.Proofs.YtlannobincnnhaaGreatDoor
