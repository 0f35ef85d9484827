/-
  No claim by itself: plain facts on votes that come in two orders. No condition.
-/
import Derived.Test.YtankebgpkhcgnaaVote
namespace Go.Proofs.Ytankebgpkhcgnaa

/-- Votes counted so far, of who votes in the order f: yes, no. -/
def votesOf (Y : List Bool) (f : Nat → Nat) (k : Nat) (b : Bool) : List Int := ((List.range k).filter fun i => Y.getD (f i) false == b).map fun i => (f i : Int) + 1
def upTo (n : Nat) : List Int := (List.range n).map fun (i : Nat) => (i : Int) + 1
def turnF (n t i : Nat) : Nat := (i + t) % n
def yesN (Y : List Bool) (n : Nat) : Nat := (List.range n).countP fun i => Y.getD i false

def votesOk (n t : Nat) (Y : List Bool) : Bool :=
  ((List.range n).all fun k => canC (upTo n) (votesOf Y id k true) (votesOf Y id k false) ((k : Int) + 1) && canC (upTo n) (votesOf Y (turnF n t) k true) (votesOf Y (turnF n t) k false) ((turnF n t k : Int) + 1)) &&
  (majC (upTo n) (votesOf Y id n true) == decide (n < 2 * yesN Y n)) && (majC (upTo n) (votesOf Y (turnF n t) n true) == decide (n < 2 * yesN Y n)) &&
  (lostC (upTo n) (votesOf Y id n false) == !decide (n < 2 * yesN Y n)) && (lostC (upTo n) (votesOf Y (turnF n t) n false) == !decide (n < 2 * yesN Y n))

def sevens : List (List Bool) := [false, true].flatMap fun a => [false, true].flatMap fun b => [false, true].flatMap fun c => [false, true].flatMap fun d => [false, true].flatMap fun e => [false, true].flatMap fun f => [false, true].map fun g => [a, b, c, d, e, f, g]
theorem votes_all : ((List.range 7).all fun n => (List.range (n + 1)).all fun t => sevens.all fun Y => votesOk (n + 1) t Y) = true := by decide +kernel
end Go.Proofs.Ytankebgpkhcgnaa
