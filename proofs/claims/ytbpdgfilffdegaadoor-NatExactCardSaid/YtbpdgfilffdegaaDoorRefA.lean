/- Walks: augurref.Trim, digit, short, NatInt, NatCmp. Conditions: strings of at most maxLen bytes. -/
import Derived.Test.YtbpdgfilffdegaaDoorRefP
import Derived.Test.YtbpdgfilffdegaaDoorAcc
import Derived.IntWalk
set_option linter.unusedVariables false
set_option linter.unusedSimpArgs false
namespace Go.Proofs.YtbpdgfilffdegaaDoor
open Go.RowKit
open Go.IntWalk (wrap64_in)

set_option maxHeartbeats 400000 in
theorem rtrim_any (s : ByteArray) (w : World) (hs : s.size ≤ maxLen) :
    Calls Tryd.prog 47 #[.string s] w fun e w' => e = .returned (.string (ns (vn s))) ∧ w = w' := by
  unfold maxLen at hs
  go_enter Tryd.func47, Tryd.ntmps47
  go_wp2
  go_loop [3] (fun v => ∃ i : Nat, v = .int .i64 i ∧ i ≤ s.size ∧ nv (s.data.toList.drop i) = vn s) (fun v => s.size - (intOf v).toNat)
  case atStart => exact ⟨0, rfl, Nat.zero_le _, rfl⟩
  case round =>
    obtain ⟨i, rfl, hi, hv⟩ := hrel
    have HV := Lib.hid hv; clear hv
    by_cases h0 : i < s.size
    · go_wp2
      · have h1 : (↑s[i].toNat == (0 : Int)) = true := by assumption
        exact ⟨⟨i + 1, rfl, by omega, by rw [nv_drop_zero s i h0 (by simpa using h1), HV.out]⟩, by simp [intOf]; omega⟩
      · have h1 : (↑s[i].toNat == (0 : Int)) = false := by assumption
        go_ret
        exact ⟨ret_str (extract_ns s i h0 (by simpa using h1) HV.out), rfl⟩
    · go_wp2
      go_ret
      exact ⟨ret_str (extract_ns0 s i (by omega) HV.out), rfl⟩

set_option maxHeartbeats 400000 in
theorem digit_any (s : ByteArray) (i : Nat) (w : World) (hs : s.size ≤ maxLen) (hi : i ≤ 9223372036854775807) :
    Calls Tryd.prog 119 #[.string s, .int .i64 i] w fun e w' => e = .returned (.int .i64 ((vn s / 256 ^ i % 256 : Nat))) ∧ w = w' := by
  unfold maxLen at hs
  by_cases h : i < s.size
  · have e := digit_eq s i h (by omega)
    have HE := Lib.hid e; clear e
    go_enter Tryd.func119, Tryd.ntmps119
    go_wp2
    go_ret
    exact ⟨ret_int (by rw [← HE.out, wrap64_in _ (by have := (s[s.size - 1 - i]'(by omega)).toNat_lt; omega)]), rfl⟩
  · have e := digit_zero s i (by omega)
    have HE := Lib.hid e; clear e
    go_enter Tryd.func119, Tryd.ntmps119
    go_wp2
    go_ret
    exact ⟨ret_int (by rw [HE.out]; rfl), rfl⟩

set_option maxHeartbeats 400000 in
theorem short_yes (s : ByteArray) (w : World) (hs : s.size ≤ 7) :
    Calls Tryd.prog 121 #[.string s] w fun e w' => e = .returned (.tuple #[.int .i64 (vn s), .bool true]) ∧ w = w' := by
  go_enter Tryd.func121, Tryd.ntmps121
  go_wp2
  go_loop [4, 5] (fun m v => ∃ i : Nat, v = .int .i64 i ∧ i ≤ s.size ∧ m = .int .i64 (nv (s.data.toList.take i))) (fun m v => s.size - (intOf v).toNat)
  case atStart => exact ⟨0, rfl, Nat.zero_le _, rfl⟩
  case round =>
    obtain ⟨i, rfl, hi, rfl⟩ := hrel
    have hlt := nv_take_pow s i
    by_cases h0 : i < s.size
    · have hp : (256 : Nat) ^ i ≤ 256 ^ 6 := Nat.pow_le_pow_right (by omega) (by omega)
      have hn : nv (s.data.toList.take i) < 281474976710656 := by omega
      have e := nv_take_succ s i h0
      have hb := s[i].toNat_lt
      have hw : (↑(nv (s.data.toList.take i)) * 256 + ↑s[i].toNat : Int) = ((nv (s.data.toList.take i) * 256 + s[i].toNat : Nat) : Int) := by omega
      rw [← e] at hw
      generalize nv (s.data.toList.take i) = y at *
      have HE := Lib.hid e; clear e
      go_wp2
      exact ⟨⟨i + 1, rfl, by omega, rfl⟩, by simp [intOf]; omega⟩
    · rw [nv_take_all s i (by omega)]
      go_wp2
      go_ret2
      exact ⟨rfl, rfl⟩
set_option maxHeartbeats 400000 in
theorem short_no (s : ByteArray) (w : World) (hm : s.size ≤ maxLen) (hs : 7 < s.size) :
    Calls Tryd.prog 121 #[.string s] w fun e w' => e = .returned (.tuple #[.int .i64 0, .bool false]) ∧ w = w' := by
  unfold maxLen at hm
  go_enter Tryd.func121, Tryd.ntmps121
  go_wp2
  go_ret2
  exact ⟨rfl, rfl⟩


set_option maxRecDepth 100000 in
set_option maxHeartbeats 1000000 in
theorem rint_in (s S : ByteArray) (w : World) (hT : Calls Tryd.prog 47 #[.string s] w fun e w' => e = .returned (.string S) ∧ w = w') (h8 : S.size ≤ 8) (hv : vn S ≤ 9223372036854775807)
    (hhead : ∀ h : 0 < S.size, S.size = 8 → (S[0]'h).toNat ≤ 127) :
    Calls Tryd.prog 46 #[.string s] w fun e w' => e = .returned (.tuple #[.int .i64 (vn S), .bool true]) ∧ w = w' := by
  have HT := Lib.hid hT; clear hT
  have HV := Lib.hid hv; clear hv
  have loop : ∀ i, i < S.size → nv (S.data.toList.take i) * 256 + S[i]!.toNat ≤ 9223372036854775807 := by
    intro i hi
    have e := nv_take_succ S i hi
    rw [getElem!_pos S i hi, ← e]
    rcases Nat.lt_or_ge (i + 1) S.size with h | h
    · have := nv_take_lt S (i + 1) h h8; omega
    · rw [nv_take_all S (i + 1) h]; exact HV.out
  have HL := Lib.hid loop; clear loop
  by_cases h : S.size = 8
  · have hh : (S[0]'(by omega)).toNat ≤ 127 := hhead (by omega) h
    clear hhead
    go_enter Tryd.func46, Tryd.ntmps46
    go_wp2_with fail
    refine HT.out.mono ?_; rintro e w' ⟨rfl, rfl⟩
    go_wp2_with fail
    go_loop [4, 5] (fun m v => ∃ i : Nat, v = .int .i64 i ∧ i ≤ S.size ∧ m = .int .i64 (nv (S.data.toList.take i))) (fun m v => S.size - (intOf v).toNat)
    case atStart => exact ⟨0, rfl, Nat.zero_le _, rfl⟩
    case round =>
      obtain ⟨i, rfl, hi, rfl⟩ := hrel
      by_cases h0 : i < S.size
      · have e := nv_take_succ S i h0
        have hl := HL.out i h0
        rw [getElem!_pos S i h0] at hl
        have hb := S[i].toNat_lt
        have hw : (↑(nv (S.data.toList.take i)) * 256 + ↑S[i].toNat : Int) = ((nv (S.data.toList.take i) * 256 + S[i].toNat : Nat) : Int) := by omega
        rw [← e] at hw
        generalize nv (S.data.toList.take i) = y at *
        have HE := Lib.hid e; clear e
        go_wp2
        exact ⟨⟨i + 1, rfl, by omega, rfl⟩, by simp [intOf]; omega⟩
      · rw [nv_take_all S i (by omega)]
        go_wp2
        go_ret2
        exact ⟨rfl, rfl⟩
  · clear hhead
    go_enter Tryd.func46, Tryd.ntmps46
    go_wp2_with fail
    refine HT.out.mono ?_; rintro e w' ⟨rfl, rfl⟩
    go_wp2_with fail
    go_loop [4, 5] (fun m v => ∃ i : Nat, v = .int .i64 i ∧ i ≤ S.size ∧ m = .int .i64 (nv (S.data.toList.take i))) (fun m v => S.size - (intOf v).toNat)
    case atStart => exact ⟨0, rfl, Nat.zero_le _, rfl⟩
    case round =>
      obtain ⟨i, rfl, hi, rfl⟩ := hrel
      by_cases h0 : i < S.size
      · have e := nv_take_succ S i h0
        have hl := HL.out i h0
        rw [getElem!_pos S i h0] at hl
        have hb := S[i].toNat_lt
        have hw : (↑(nv (S.data.toList.take i)) * 256 + ↑S[i].toNat : Int) = ((nv (S.data.toList.take i) * 256 + S[i].toNat : Nat) : Int) := by omega
        rw [← e] at hw
        generalize nv (S.data.toList.take i) = y at *
        have HE := Lib.hid e; clear e
        go_wp2
        exact ⟨⟨i + 1, rfl, by omega, rfl⟩, by simp [intOf]; omega⟩
      · rw [nv_take_all S i (by omega)]
        go_wp2
        go_ret2
        exact ⟨rfl, rfl⟩

theorem rint_yes (s : ByteArray) (w : World) (hs : s.size ≤ maxLen) (hv : vn s ≤ 9223372036854775807) :
    Calls Tryd.prog 46 #[.string s] w fun e w' => e = .returned (.tuple #[.int .i64 (vn s), .bool true]) ∧ w = w' := by
  have h8 : (ns (vn s)).size ≤ 8 := ns_size_le8 (by omega)
  have hvv := vn_ns (vn s)
  have hT := rtrim_any s w hs
  have := rint_in s (ns (vn s)) w hT h8 (by rw [hvv]; exact hv) (by
    intro h h8
    have e := digit_eq (ns (vn s)) 7 (by omega) (by omega)
    have : (ns (vn s)).size - 1 - 7 = 0 := by omega
    simp only [this] at e
    rw [e, hvv]; omega)
  rw [hvv] at this
  exact this

set_option maxRecDepth 100000 in
set_option maxHeartbeats 1000000 in
theorem rint_out (s S : ByteArray) (w : World) (hT : Calls Tryd.prog 47 #[.string s] w fun e w' => e = .returned (.string S) ∧ w = w') (hm : S.size ≤ maxLen) (hz : 8 ≤ S.size)
    (hhead : ∀ h : 0 < S.size, S.size = 8 → 127 < (S[0]'h).toNat) :
    Calls Tryd.prog 46 #[.string s] w fun e w' => e = .returned (.tuple #[.int .i64 0, .bool false]) ∧ w = w' := by
  have HT := Lib.hid hT; clear hT
  unfold maxLen at hm
  by_cases h : S.size = 8
  · have hh : 127 < (S[0]'(by omega)).toNat := hhead (by omega) h
    clear hhead
    go_enter Tryd.func46, Tryd.ntmps46
    go_wp2_with fail
    refine HT.out.mono ?_; rintro e w' ⟨rfl, rfl⟩
    go_wp2_with fail
    go_ret2
    exact ⟨rfl, rfl⟩
  · clear hhead
    go_enter Tryd.func46, Tryd.ntmps46
    go_wp2_with fail
    refine HT.out.mono ?_; rintro e w' ⟨rfl, rfl⟩
    go_wp2_with fail
    go_ret2
    exact ⟨rfl, rfl⟩

theorem rint_no (s : ByteArray) (w : World) (hs : s.size ≤ maxLen) (hv : 9223372036854775807 < vn s) :
    Calls Tryd.prog 46 #[.string s] w fun e w' => e = .returned (.tuple #[.int .i64 0, .bool false]) ∧ w = w' := by
  have hvv := vn_ns (vn s)
  have h8 : 8 ≤ (ns (vn s)).size := by
    rcases Nat.lt_or_ge (ns (vn s)).size 8 with h | h
    · have := vn_lt (ns (vn s))
      have hp : 256 ^ (ns (vn s)).size ≤ 256 ^ 7 := Nat.pow_le_pow_right (by omega) (by omega)
      rw [hvv] at this; omega
    · exact h
  refine rint_out s (ns (vn s)) w (rtrim_any s w hs) (Nat.le_trans (ns_size_le s) hs) h8 ?_
  intro h h8
  have e := digit_eq (ns (vn s)) 7 (by omega) (by omega)
  have : (ns (vn s)).size - 1 - 7 = 0 := by omega
  simp only [this] at e
  have hlt := vn_lt (ns (vn s))
  rw [h8, hvv] at hlt
  rw [e, hvv]; omega
end Go.Proofs.YtbpdgfilffdegaaDoor
