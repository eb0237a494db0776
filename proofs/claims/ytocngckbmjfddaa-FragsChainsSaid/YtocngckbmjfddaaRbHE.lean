import Derived.Test.YtocngckbmjfddaaRbH1
import Derived.Test.YtocngckbmjfddaaRbH2
import Derived.Test.YtocngckbmjfddaaRbH3
import Derived.Test.YtocngckbmjfddaaRbH4
set_option linter.all false
set_option linter.unusedVariables false
set_option linter.unusedSimpArgs false
set_option maxRecDepth 100000
namespace T
open Go Go.Aes Go.Proofs

theorem ev_ch (a b : Int) (bo : Bool) : ChOk a b bo := by
  obtain ⟨x, hx, hx2⟩ : ∃ x : Nat, a % 12 = (x : Int) ∧ x < 12 := ⟨(a % 12).toNat, by omega, by omega⟩
  have tx : x = 0 ∨ x = 1 ∨ x = 2 ∨ x = 3 ∨ x = 4 ∨ x = 5 ∨ x = 6 ∨ x = 7 ∨ x = 8 ∨ x = 9 ∨ x = 10 ∨ x = 11 := by omega
  cases bo
  · rcases tx with rfl | rfl | rfl | rfl | rfl | rfl | rfl | rfl | rfl | rfl | rfl | rfl
    · exact ch0_n a b hx
    · exact ch1_n a b hx
    · exact ch2_n a b hx
    · exact ch3_n a b hx
    · exact ch4_n a b hx
    · exact ch5_n a b hx
    · exact ch6_n a b hx
    · exact ch7_n a b hx
    · exact ch8_n a b hx
    · exact ch9_n a b hx
    · exact ch10_n a b hx
    · exact ch11_n a b hx
  · obtain ⟨y, hy, hy2⟩ : ∃ y : Nat, b % (1 + (x : Int)) = (y : Int) ∧ y < 1 + x := ⟨(b % (1 + (x : Int))).toNat, by have := Int.emod_nonneg b (by omega : (1 + (x : Int)) ≠ 0); omega, by have := Int.emod_lt_of_pos b (by omega : 0 < (1 + (x : Int))); have := Int.emod_nonneg b (by omega : (1 + (x : Int)) ≠ 0); omega⟩
    rcases tx with rfl | rfl | rfl | rfl | rfl | rfl | rfl | rfl | rfl | rfl | rfl | rfl
    · obtain rfl : y = 0 := by omega
      exact ch0_0 a b hx hy
    · have ty : y = 0 ∨ y = 1 := by omega
      rcases ty with rfl | rfl
      · exact ch1_0 a b hx hy
      · exact ch1_1 a b hx hy
    · have ty : y = 0 ∨ y = 1 ∨ y = 2 := by omega
      rcases ty with rfl | rfl | rfl
      · exact ch2_0 a b hx hy
      · exact ch2_1 a b hx hy
      · exact ch2_2 a b hx hy
    · have ty : y = 0 ∨ y = 1 ∨ y = 2 ∨ y = 3 := by omega
      rcases ty with rfl | rfl | rfl | rfl
      · exact ch3_0 a b hx hy
      · exact ch3_1 a b hx hy
      · exact ch3_2 a b hx hy
      · exact ch3_3 a b hx hy
    · have ty : y = 0 ∨ y = 1 ∨ y = 2 ∨ y = 3 ∨ y = 4 := by omega
      rcases ty with rfl | rfl | rfl | rfl | rfl
      · exact ch4_0 a b hx hy
      · exact ch4_1 a b hx hy
      · exact ch4_2 a b hx hy
      · exact ch4_3 a b hx hy
      · exact ch4_4 a b hx hy
    · have ty : y = 0 ∨ y = 1 ∨ y = 2 ∨ y = 3 ∨ y = 4 ∨ y = 5 := by omega
      rcases ty with rfl | rfl | rfl | rfl | rfl | rfl
      · exact ch5_0 a b hx hy
      · exact ch5_1 a b hx hy
      · exact ch5_2 a b hx hy
      · exact ch5_3 a b hx hy
      · exact ch5_4 a b hx hy
      · exact ch5_5 a b hx hy
    · have ty : y = 0 ∨ y = 1 ∨ y = 2 ∨ y = 3 ∨ y = 4 ∨ y = 5 ∨ y = 6 := by omega
      rcases ty with rfl | rfl | rfl | rfl | rfl | rfl | rfl
      · exact ch6_0 a b hx hy
      · exact ch6_1 a b hx hy
      · exact ch6_2 a b hx hy
      · exact ch6_3 a b hx hy
      · exact ch6_4 a b hx hy
      · exact ch6_5 a b hx hy
      · exact ch6_6 a b hx hy
    · have ty : y = 0 ∨ y = 1 ∨ y = 2 ∨ y = 3 ∨ y = 4 ∨ y = 5 ∨ y = 6 ∨ y = 7 := by omega
      rcases ty with rfl | rfl | rfl | rfl | rfl | rfl | rfl | rfl
      · exact ch7_0 a b hx hy
      · exact ch7_1 a b hx hy
      · exact ch7_2 a b hx hy
      · exact ch7_3 a b hx hy
      · exact ch7_4 a b hx hy
      · exact ch7_5 a b hx hy
      · exact ch7_6 a b hx hy
      · exact ch7_7 a b hx hy
    · have ty : y = 0 ∨ y = 1 ∨ y = 2 ∨ y = 3 ∨ y = 4 ∨ y = 5 ∨ y = 6 ∨ y = 7 ∨ y = 8 := by omega
      rcases ty with rfl | rfl | rfl | rfl | rfl | rfl | rfl | rfl | rfl
      · exact ch8_0 a b hx hy
      · exact ch8_1 a b hx hy
      · exact ch8_2 a b hx hy
      · exact ch8_3 a b hx hy
      · exact ch8_4 a b hx hy
      · exact ch8_5 a b hx hy
      · exact ch8_6 a b hx hy
      · exact ch8_7 a b hx hy
      · exact ch8_8 a b hx hy
    · have ty : y = 0 ∨ y = 1 ∨ y = 2 ∨ y = 3 ∨ y = 4 ∨ y = 5 ∨ y = 6 ∨ y = 7 ∨ y = 8 ∨ y = 9 := by omega
      rcases ty with rfl | rfl | rfl | rfl | rfl | rfl | rfl | rfl | rfl | rfl
      · exact ch9_0 a b hx hy
      · exact ch9_1 a b hx hy
      · exact ch9_2 a b hx hy
      · exact ch9_3 a b hx hy
      · exact ch9_4 a b hx hy
      · exact ch9_5 a b hx hy
      · exact ch9_6 a b hx hy
      · exact ch9_7 a b hx hy
      · exact ch9_8 a b hx hy
      · exact ch9_9 a b hx hy
    · have ty : y = 0 ∨ y = 1 ∨ y = 2 ∨ y = 3 ∨ y = 4 ∨ y = 5 ∨ y = 6 ∨ y = 7 ∨ y = 8 ∨ y = 9 ∨ y = 10 := by omega
      rcases ty with rfl | rfl | rfl | rfl | rfl | rfl | rfl | rfl | rfl | rfl | rfl
      · exact ch10_0 a b hx hy
      · exact ch10_1 a b hx hy
      · exact ch10_2 a b hx hy
      · exact ch10_3 a b hx hy
      · exact ch10_4 a b hx hy
      · exact ch10_5 a b hx hy
      · exact ch10_6 a b hx hy
      · exact ch10_7 a b hx hy
      · exact ch10_8 a b hx hy
      · exact ch10_9 a b hx hy
      · exact ch10_10 a b hx hy
    · have ty : y = 0 ∨ y = 1 ∨ y = 2 ∨ y = 3 ∨ y = 4 ∨ y = 5 ∨ y = 6 ∨ y = 7 ∨ y = 8 ∨ y = 9 ∨ y = 10 ∨ y = 11 := by omega
      rcases ty with rfl | rfl | rfl | rfl | rfl | rfl | rfl | rfl | rfl | rfl | rfl | rfl
      · exact ch11_0 a b hx hy
      · exact ch11_1 a b hx hy
      · exact ch11_2 a b hx hy
      · exact ch11_3 a b hx hy
      · exact ch11_4 a b hx hy
      · exact ch11_5 a b hx hy
      · exact ch11_6 a b hx hy
      · exact ch11_7 a b hx hy
      · exact ch11_8 a b hx hy
      · exact ch11_9 a b hx hy
      · exact ch11_10 a b hx hy
      · exact ch11_11 a b hx hy
end T
