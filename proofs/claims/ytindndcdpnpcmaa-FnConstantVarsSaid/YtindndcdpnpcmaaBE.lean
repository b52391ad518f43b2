import Derived.Test.YtindndcdpnpcmaaV6
import Derived.Test.YtindndcdpnpcmaaV3
import Derived.Test.YtindndcdpnpcmaaL4
import Derived.Test.YtindndcdpnpcmaaBD
namespace Go.Proofs.Ytindndcdpnpcmaa
set_option linter.unusedVariables false
set_option linter.unusedSimpArgs false
open Go.RowKit

/-! The table of a literal. -/

def litF (c : Cir) (l : Int) (x : Nat) : Bool := litB (evalV c (x : Int) (-1) false) l
def tabF (f : Nat → Bool) (N : Nat) : List Bool := (List.range N).map f
theorem tabF_length (f : Nat → Bool) (N : Nat) : (tabF f N).length = N := by simp [tabF]
theorem tabF_succ (f : Nat → Bool) (N : Nat) : tabF f (N + 1) = tabF f N ++ [f N] := by simp [tabF, List.range_succ]
theorem tabF_getD (f : Nat → Bool) {N x : Nat} (h : x < N) : (tabF f N).getD x false = f x := by
  simp [tabF, List.getD_eq_getElem?_getD, h]

theorem litValueN_any (s : Option Addr) (vs : List Bool) (n cap : Nat) (l : Int) (w : World) (hn : vs.length = n) (h : Sl w s (bools vs)) (h0 : 0 ≤ l) (h1 : l ≤ 1000000) (h2 : l / 2 < n) :
    Calls Try.prog 134 #[.slice s n cap, .int .i64 l] w fun e w' => e = .returned (.bool (litB vs l)) ∧ w = w' := by
  subst hn; exact litValue_any s vs cap l w h h0 h1 h2

end Go.Proofs.Ytindndcdpnpcmaa
