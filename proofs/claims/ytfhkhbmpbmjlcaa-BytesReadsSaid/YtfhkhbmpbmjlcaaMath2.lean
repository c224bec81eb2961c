/- The plain laws of layer 2: coded numbers: what Coded and its reference come to. -/
import Derived.Test.YtfhkhbmpbmjlcaaMath
namespace Go.Proofs.Ytfhkhbmpbmjlcaa.Math
open Go.RowKit Go.Proofs.Ytfhkhbmpbmjlcaa.Q Go.Proofs.YtfhkhbmpbmjlcaaW.PrintWords Go.Proofs.YtfhkhbmpbmjlcaaW.PrintLast Go.Proofs.YtfhkhbmpbmjlcaaW.PrintMore
set_option linter.unusedVariables false
set_option linter.unusedSimpArgs false

/-- How many bytes a coded number has. -/
def wideN (n : Int) : Int := if n < 128 then 1 else if n < 2048 then 2 else if n < 65536 then 3 else if n < 2097152 then 4 else if n < 67108864 then 5 else if n < 2147483648 then 6 else 7
/-- The bytes of a coded number. -/
def codR (n : Int) : List Int :=
  if n < 128 then [n]
  else if n < 2048 then [192 + n / 64, 128 + n % 64]
  else if n < 65536 then [224 + n / 4096, 128 + n / 64 % 64, 128 + n % 64]
  else if n < 2097152 then [240 + n / 262144, 128 + n / 4096 % 64, 128 + n / 64 % 64, 128 + n % 64]
  else if n < 67108864 then [248 + n / 16777216, 128 + n / 262144 % 64, 128 + n / 4096 % 64, 128 + n / 64 % 64, 128 + n % 64]
  else if n < 2147483648 then [252 + n / 1073741824, 128 + n / 16777216 % 64, 128 + n / 262144 % 64, 128 + n / 4096 % 64, 128 + n / 64 % 64, 128 + n % 64]
  else [254, 128 + n / 1073741824 % 64, 128 + n / 16777216 % 64, 128 + n / 262144 % 64, 128 + n / 4096 % 64, 128 + n / 64 % 64, 128 + n % 64]

theorem or_u8 (i : Nat) (hi : i ≤ 8) (x y : Int) (hx₀ : 0 ≤ x) (hx : x % 2 ^ i = 0) (hx₁ : x < 256) (hy₀ : 0 ≤ y) (hy : y < 2 ^ i) (hy₁ : y < 256) : bits .or .u8 x y = x + y :=
  bits_join .u8 8 (by decide) wraps_u8 i x y hx₀ hx hx₁ hy₀ hy hy₁
theorem or192 (y : Int) (h0 : 0 ≤ y) (h : y < 64) : bits .or .u8 192 y = 192 + y := or_u8 6 (by decide) _ _ (by decide) (by decide) (by decide) h0 (by simpa using h) (by omega)
theorem or224 (y : Int) (h0 : 0 ≤ y) (h : y < 32) : bits .or .u8 224 y = 224 + y := or_u8 5 (by decide) _ _ (by decide) (by decide) (by decide) h0 (by simpa using h) (by omega)
theorem or240 (y : Int) (h0 : 0 ≤ y) (h : y < 16) : bits .or .u8 240 y = 240 + y := or_u8 4 (by decide) _ _ (by decide) (by decide) (by decide) h0 (by simpa using h) (by omega)
theorem or248 (y : Int) (h0 : 0 ≤ y) (h : y < 8) : bits .or .u8 248 y = 248 + y := or_u8 3 (by decide) _ _ (by decide) (by decide) (by decide) h0 (by simpa using h) (by omega)
theorem or252 (y : Int) (h0 : 0 ≤ y) (h : y < 4) : bits .or .u8 252 y = 252 + y := or_u8 2 (by decide) _ _ (by decide) (by decide) (by decide) h0 (by simpa using h) (by omega)
theorem or254 : bits .or .u8 254 0 = 254 := by decide

theorem wide_ok (n : Int) (h0 : 0 ≤ n) (h1 : n < 68719476736) : bytes_wide.f 10 n = some (wideN n) := by
  unfold wideN
  by_cases c1 : n < 128
  · simp [bytes_wide.f, c1]
  by_cases c2 : n < 2048
  · simp [bytes_wide.f, bytes_wide.l0, shr, wrap64, IntKind.bits, c1, c2, show n / 2048 = 0 by omega]
  by_cases c3 : n < 65536
  · simp [bytes_wide.f, bytes_wide.l0, shr, wrap64, IntKind.bits, c1, c2, c3, show ¬ n / 2048 = 0 by omega, show n / 65536 = 0 by omega]
  by_cases c4 : n < 2097152
  · simp [bytes_wide.f, bytes_wide.l0, shr, wrap64, IntKind.bits, c1, c2, c3, c4, show ¬ n / 2048 = 0 by omega, show ¬ n / 65536 = 0 by omega, show n / 2097152 = 0 by omega]
  by_cases c5 : n < 67108864
  · simp [bytes_wide.f, bytes_wide.l0, shr, wrap64, IntKind.bits, c1, c2, c3, c4, c5, show ¬ n / 2048 = 0 by omega, show ¬ n / 65536 = 0 by omega, show ¬ n / 2097152 = 0 by omega, show n / 67108864 = 0 by omega]
  by_cases c6 : n < 2147483648
  · simp [bytes_wide.f, bytes_wide.l0, shr, wrap64, IntKind.bits, c1, c2, c3, c4, c5, c6, show ¬ n / 2048 = 0 by omega, show ¬ n / 65536 = 0 by omega, show ¬ n / 2097152 = 0 by omega, show ¬ n / 67108864 = 0 by omega, show n / 2147483648 = 0 by omega]
  · simp [bytes_wide.f, bytes_wide.l0, shr, wrap64, IntKind.bits, c1, c2, c3, c4, c5, c6, show ¬ n / 2048 = 0 by omega, show ¬ n / 65536 = 0 by omega, show ¬ n / 2097152 = 0 by omega, show ¬ n / 67108864 = 0 by omega, show ¬ n / 2147483648 = 0 by omega, show n / 68719476736 = 0 by omega]

theorem Coded_ok (n : Int) (h0 : 0 ≤ n) (h1 : n < 68719476736) : bytes_Coded.f 12 n = some (strOfNums (codR n), 0) := by
  have hw := at_rounds (bytes_wide.mono n) (k' := 11) (by omega) (wide_ok n h0 h1)
  unfold bytes_Coded.f
  rw [if_neg (by omega)]
  simp only [bytes_Coded.j0]
  rw [hw]
  unfold wideN codR
  by_cases c1 : n < 128
  · simp [c1, h1, show n % 256 = n by omega]
  by_cases c2 : n < 2048
  · simp [bytes_Coded.l0, shr, shl, wrap64, IntKind.wrap, IntKind.bits, IntKind.signed, c1, c2, show ¬ 68719476736 ≤ n by omega, show n / 64 % 256 = n / 64 by omega, or192 (n / 64) (by omega) (by omega)]
  by_cases c3 : n < 65536
  · simp [bytes_Coded.l0, shr, shl, wrap64, IntKind.wrap, IntKind.bits, IntKind.signed, c1, c2, c3, show ¬ 68719476736 ≤ n by omega, show n / 4096 % 256 = n / 4096 by omega, or224 (n / 4096) (by omega) (by omega)]
  by_cases c4 : n < 2097152
  · simp [bytes_Coded.l0, shr, shl, wrap64, IntKind.wrap, IntKind.bits, IntKind.signed, c1, c2, c3, c4, show ¬ 68719476736 ≤ n by omega, show n / 262144 % 256 = n / 262144 by omega, or240 (n / 262144) (by omega) (by omega)]
  by_cases c5 : n < 67108864
  · simp [bytes_Coded.l0, shr, shl, wrap64, IntKind.wrap, IntKind.bits, IntKind.signed, c1, c2, c3, c4, c5, show ¬ 68719476736 ≤ n by omega, show n / 16777216 % 256 = n / 16777216 by omega, or248 (n / 16777216) (by omega) (by omega)]
  by_cases c6 : n < 2147483648
  · simp [bytes_Coded.l0, shr, shl, wrap64, IntKind.wrap, IntKind.bits, IntKind.signed, c1, c2, c3, c4, c5, c6, show ¬ 68719476736 ≤ n by omega, show n / 1073741824 % 256 = n / 1073741824 by omega, or252 (n / 1073741824) (by omega) (by omega)]
  · simp [bytes_Coded.l0, shr, shl, wrap64, IntKind.wrap, IntKind.bits, IntKind.signed, c1, c2, c3, c4, c5, c6, show ¬ 68719476736 ≤ n by omega, show n / 68719476736 % 256 = 0 by omega, or254]
theorem Coded_no (n : Int) (h : ¬ (0 ≤ n ∧ n < 68719476736)) : bytes_Coded.f 12 n = some (⟨#[]⟩, 11) := by
  by_cases c : n < 0
  · simp [bytes_Coded.f, bytes_Coded.j0, c]
  · simp [bytes_Coded.f, bytes_Coded.j0, c, show 68719476736 ≤ n by omega]
theorem e2 (n : Int) : n / 64 / 64 = n / 4096 := by omega
theorem e3 (n : Int) : n / 4096 / 64 = n / 262144 := by omega
theorem e4 (n : Int) : n / 262144 / 64 = n / 16777216 := by omega
theorem e5 (n : Int) : n / 16777216 / 64 = n / 1073741824 := by omega
theorem e6 (n : Int) : n / 1073741824 / 64 = n / 68719476736 := by omega
theorem CodedR_ok (n : Int) (h0 : 0 ≤ n) (h1 : n < 68719476736) : lacquerref02_Coded.f 30 n = some (strOfNums (codR n), 0) := by
  have hm : ∀ x : Int, (128 + x % 64) % 256 = 128 + x % 64 := fun x => by omega
  have hm2 : ∀ x : Int, (128 + x % 64 + 9223372036854775808) % 18446744073709551616 - 9223372036854775808 = 128 + x % 64 := fun x => by omega
  unfold lacquerref02_Coded.f
  rw [if_neg (by omega)]
  simp only [lacquerref02_Coded.j0]
  unfold codR
  by_cases c1 : n < 128
  · simp [c1, h1, show n % 256 = n by omega]
  by_cases c2 : n < 2048
  · simp [lacquerref02_Coded.l0, lacquerref02_Coded.l1, lacquerref02_Coded.l2, shr, shl, wrap64, IntKind.wrap, IntKind.bits, IntKind.signed, and63, hm, hm2, e2, e3, e4, e5, e6, c1, c2, show ¬ 68719476736 ≤ n by omega, show ¬ 2048 ≤ n by omega]
    all_goals (congr 2; omega)
  by_cases c3 : n < 65536
  · simp [lacquerref02_Coded.l0, lacquerref02_Coded.l1, lacquerref02_Coded.l2, shr, shl, wrap64, IntKind.wrap, IntKind.bits, IntKind.signed, and63, hm, hm2, e2, e3, e4, e5, e6, c1, c2, c3, show ¬ 68719476736 ≤ n by omega, show 2048 ≤ n by omega, show ¬ 65536 ≤ n by omega]
    all_goals (congr 2; omega)
  by_cases c4 : n < 2097152
  · simp [lacquerref02_Coded.l0, lacquerref02_Coded.l1, lacquerref02_Coded.l2, shr, shl, wrap64, IntKind.wrap, IntKind.bits, IntKind.signed, and63, hm, hm2, e2, e3, e4, e5, e6, c1, c2, c3, c4, show ¬ 68719476736 ≤ n by omega, show 2048 ≤ n by omega, show 65536 ≤ n by omega, show ¬ 2097152 ≤ n by omega]
    all_goals (congr 2; omega)
  by_cases c5 : n < 67108864
  · simp [lacquerref02_Coded.l0, lacquerref02_Coded.l1, lacquerref02_Coded.l2, shr, shl, wrap64, IntKind.wrap, IntKind.bits, IntKind.signed, and63, hm, hm2, e2, e3, e4, e5, e6, c1, c2, c3, c4, c5, show ¬ 68719476736 ≤ n by omega, show 2048 ≤ n by omega, show 65536 ≤ n by omega, show 2097152 ≤ n by omega, show ¬ 67108864 ≤ n by omega]
    all_goals (congr 2; omega)
  by_cases c6 : n < 2147483648
  · simp [lacquerref02_Coded.l0, lacquerref02_Coded.l1, lacquerref02_Coded.l2, shr, shl, wrap64, IntKind.wrap, IntKind.bits, IntKind.signed, and63, hm, hm2, e2, e3, e4, e5, e6, c1, c2, c3, c4, c5, c6, show ¬ 68719476736 ≤ n by omega, show 2048 ≤ n by omega, show 65536 ≤ n by omega, show 2097152 ≤ n by omega, show 67108864 ≤ n by omega, show ¬ 2147483648 ≤ n by omega]
    all_goals (congr 2; omega)
  · simp [lacquerref02_Coded.l0, lacquerref02_Coded.l1, lacquerref02_Coded.l2, shr, shl, wrap64, IntKind.wrap, IntKind.bits, IntKind.signed, and63, hm, hm2, e2, e3, e4, e5, e6, c1, c2, c3, c4, c5, c6, show ¬ 68719476736 ≤ n by omega, show 2048 ≤ n by omega, show 65536 ≤ n by omega, show 2097152 ≤ n by omega, show 67108864 ≤ n by omega, show 2147483648 ≤ n by omega]
    all_goals (congr 2; omega)
theorem CodedR_no (n : Int) (h : ¬ (0 ≤ n ∧ n < 68719476736)) : lacquerref02_Coded.f 30 n = some (⟨#[]⟩, 11) := by
  by_cases c : n < 0
  · simp [lacquerref02_Coded.f, lacquerref02_Coded.j0, c]
  · simp [lacquerref02_Coded.f, lacquerref02_Coded.j0, c, show 68719476736 ≤ n by omega]
def codF (n : Int) : ByteArray × Int := if 0 ≤ n ∧ n < 68719476736 then (strOfNums (codR n), 0) else (⟨#[]⟩, 11)
theorem Coded_ev (n : Int) : Ev (fun k => bytes_Coded.f k n) (codF n) := by
  refine Ev.of (bytes_Coded.mono n) (k := 12) ?_
  unfold codF
  split
  · rename_i h; exact Coded_ok n h.1 h.2
  · rename_i h; exact Coded_no n h
theorem CodedR_ev (n : Int) : Ev (fun k => lacquerref02_Coded.f k n) (codF n) := by
  refine Ev.of (lacquerref02_Coded.mono n) (k := 30) ?_
  unfold codF
  split
  · rename_i h; exact CodedR_ok n h.1 h.2
  · rename_i h; exact CodedR_no n h
theorem wide_ev (n : Int) (h0 : 0 ≤ n) (h1 : n < 68719476736) : Ev (fun k => bytes_wide.f k n) (wideN n) := Ev.of (bytes_wide.mono n) (wide_ok n h0 h1)
theorem codR_length (n : Int) : ((codR n).length : Int) = wideN n := by
  unfold codR wideN
  repeat' split
  all_goals rfl
end Go.Proofs.Ytfhkhbmpbmjlcaa.Math
