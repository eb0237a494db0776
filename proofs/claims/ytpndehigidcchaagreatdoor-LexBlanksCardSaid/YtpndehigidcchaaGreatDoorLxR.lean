import Derived.Test.YtpndehigidcchaaGreatDoorLxX
set_option linter.all false
set_option linter.unusedVariables false
set_option linter.unusedSimpArgs false
set_option maxRecDepth 10000
namespace T
open Go Go.Aes Go.Proofs
theorem spn_app (p : UInt8 → Bool) : ∀ (s y : Str), (∀ c ∈ s, p c = true) → spn p (s ++ y) = s.length + spn p y
  | [], y, _ => by simp
  | c :: s, y, h => by
    rw [List.cons_append, spn_cons, if_pos (h c (by simp)), spn_app p s y (fun d hd => h d (by simp [hd]))]
    simp; omega
end T
