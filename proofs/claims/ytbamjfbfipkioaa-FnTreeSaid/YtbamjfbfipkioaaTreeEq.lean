/- Comparing two slices of statements that read the same: the laws' eqStmtS answers true. -/
import Derived.Test.YtbamjfbfipkioaaTreeTo
namespace Go.Proofs.Ytbamjfbfipkioaa
open Go.RowKit
set_option linter.unusedVariables false
theorem RdT.drew {w : World} {lo d n : Nat} {A : Option Addr} {l : List (Tr d)} (h : RdT w lo d A n l) : RdT w.drew lo d A n l := RdT.keep (w := w) (w' := w.drew) (fun _ _ _ _ => rfl) (Nat.le_refl _) h
theorem RdT.drewN {w : World} {lo d n : Nat} {A : Option Addr} {l : List (Tr d)} (h : RdT w lo d A n l) (k : Nat) : RdT (w.drewN k) lo d A n l := RdT.keep (w := w) (w' := w.drewN k) (fun _ _ _ _ => rfl) (Nat.le_refl _) h
end Go.Proofs.Ytbamjfbfipkioaa
