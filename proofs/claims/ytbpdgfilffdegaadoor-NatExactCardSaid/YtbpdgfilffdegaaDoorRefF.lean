/- Walks: augurref.NatDiv. -/
import Derived.Test.YtbpdgfilffdegaaDoorRefE
import Derived.BigRegion
set_option linter.unusedVariables false
set_option linter.unusedSimpArgs false
namespace Go.Proofs.YtbpdgfilffdegaaDoor
open Go.RowKit
open Go.IntWalk (wrap64_in)

theorem rdiv_zero (a b : ByteArray) (w : World) (ha : a.size ≤ 137438953472) (hb : b.size ≤ 137438953472) (h0 : vn b = 0) :
    Calls Tryd.prog 55 #[.string a, .string b] w (RetDiv w 0 0 false) := by
  have HT1 := fun w => rtrim_any a w (by unfold maxLen; omega)
  have HT2 := fun w => rtrim_any b w (by unfold maxLen; omega)
  rw [h0, ns_zero] at HT2
  have G1 := Lib.hid HT1
  have G2 := Lib.hid HT2
  clear HT1 HT2 h0
  go_enter Tryd.func55, Tryd.ntmps55
  go_wp2_with (fail)
  refine (G1.out _).mono ?_; rintro e w' ⟨rfl, rfl⟩
  go_wp2_with (fail)
  refine (G2.out _).mono ?_; rintro e w' ⟨rfl, rfl⟩
  go_wp2_with (fail)
  go_ret3
  exact ⟨by rw [ns_zero]; rfl, Below.refl _ _⟩

set_option maxRecDepth 100000 in
set_option maxHeartbeats 1000000 in
theorem rdiv_small (a b S T : ByteArray) (w : World) (hTa : ∀ w, Calls Tryd.prog 47 #[.string a] w fun e w' => e = .returned (.string S) ∧ w = w') (hTb : ∀ w, Calls Tryd.prog 47 #[.string b] w fun e w' => e = .returned (.string T) ∧ w = w')
    (hS : S.size ≤ 7) (hT : T.size ≤ 7) (h0 : vn T ≠ 0) (hTn : T.size ≠ 0) :
    Calls Tryd.prog 55 #[.string a, .string b] w (RetDiv w (vn S / vn T) (vn S % vn T) true) := by
  have HW1 := fun w => short_yes S w hS
  have HW2 := fun w => short_yes T w hT
  have n1 := toList_ne _ hTn
  have n2 := isEmpty_false _ hTn
  have la : vn S < 256 ^ 7 := Nat.lt_of_lt_of_le (vn_lt S) (Nat.pow_le_pow_right (by omega) hS)
  have lb : vn T < 256 ^ 7 := Nat.lt_of_lt_of_le (vn_lt T) (Nat.pow_le_pow_right (by omega) hT)
  generalize vn S = x at *
  generalize vn T = y at *
  have y0 : 0 < y := by omega
  have hq : (x : Int) / (y : Int) = ((x / y : Nat) : Int) := (Int.natCast_ediv x y).symm
  have hr : (x : Int) % (y : Int) = ((x % y : Nat) : Int) := (Int.natCast_emod x y).symm
  have hq2 : (x : Int).tdiv (y : Int) = ((x / y : Nat) : Int) := (Int.ofNat_tdiv x y).symm
  have hr2 : (x : Int).tmod (y : Int) = ((x % y : Nat) : Int) := (Int.ofNat_tmod x y).symm
  have lq' : x / y ≤ 72057594037927935 := by have := Nat.div_le_self x y; omega
  have lr' : x % y ≤ 72057594037927935 := by have := Nat.mod_le x y; omega
  generalize x / y = q at *
  generalize x % y = r at *
  have hne : ((y : Int) == 0) = false := by simp; omega
  have hwq : IntKind.i64.wrap (q : Int) = (q : Int) := by rw [IntKind.wrap_i64]; omega
  have G1 := Lib.hid hTa
  have G2 := Lib.hid hTb
  have G3 := Lib.hid HW1
  have G4 := Lib.hid HW2
  clear hTa hTb HW1 HW2 la lb h0
  go_enter Tryd.func55, Tryd.ntmps55
  go_wp2_with (fail)
  refine (G1.out _).mono ?_; rintro e w' ⟨rfl, rfl⟩
  go_wp2_with (fail)
  refine (G2.out _).mono ?_; rintro e w' ⟨rfl, rfl⟩
  go_wp2_with (fail)
  refine (G3.out _).mono ?_; rintro e w' ⟨rfl, rfl⟩
  go_wp2_with (fail)
  refine (G4.out _).mono ?_; rintro e w' ⟨rfl, rfl⟩
  go_wp2_with (fail)
  clear n1 n2
  go_region_with (go_at_call 48; refine (rof_any _ _ (by omega) (by omega)).mono ?_; rintro e w' ⟨rfl, hb⟩)
  all_goals go_wp2
  all_goals (go_ret3; exact ⟨rfl, below_two (by assumption) hb⟩)
end Go.Proofs.YtbpdgfilffdegaaDoor
