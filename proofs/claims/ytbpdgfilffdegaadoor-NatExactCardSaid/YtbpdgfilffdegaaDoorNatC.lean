/- Walks: nat.word, nat.Int. -/
import Derived.Test.YtbpdgfilffdegaaDoorNatB
set_option linter.unusedVariables false
set_option linter.unusedSimpArgs false
namespace Go.Proofs.YtbpdgfilffdegaaDoor
open Go.RowKit

theorem nv_take_succ (s : ByteArray) (i : Nat) (h : i < s.size) : nv (s.data.toList.take (i + 1)) = nv (s.data.toList.take i) * 256 + s[i].toNat := by
  rw [List.take_succ_eq_append_getElem (by rw [bytes_size]; exact h), nv_snoc, bytes_get s i h]
theorem nv_take_lt (s : ByteArray) (i : Nat) (h : i < s.size) (h8 : s.size ≤ 8) : nv (s.data.toList.take i) < 72057594037927936 := by
  have := nv_lt (s.data.toList.take i)
  have hl : (s.data.toList.take i).length ≤ 7 := by rw [List.length_take]; omega
  have : 256 ^ (s.data.toList.take i).length ≤ 256 ^ 7 := Nat.pow_le_pow_right (by omega) hl
  omega

set_option maxHeartbeats 400000 in
theorem word_any (s : ByteArray) (w : World) (hs : s.size ≤ 8) :
    Calls Tryd.prog 116 #[.string s] w fun e w' => e = .returned (.tuple #[.int .u64 (vn s), .bool true]) ∧ w = w' := by
  go_enter Tryd.func116, Tryd.ntmps116
  go_wp2
  go_loop [4, 11] (fun n i => ∃ k : Nat, k ≤ s.size ∧ i = .int .i64 k ∧ n = .int .u64 (nv (s.data.toList.take k))) (fun _ i => s.size - (intOf i).toNat)
  case atStart => exact ⟨0, by omega, rfl, rfl⟩
  case round =>
    obtain ⟨k, hk, rfl, rfl⟩ := hrel
    by_cases hlt : k < s.size
    · have hv := nv_take_lt s k hlt hs
      have hsu := nv_take_succ s k hlt
      generalize nv (s.data.toList.take k) = m at *
      have hb : s[k].toNat < 256 := s[k].toNat_lt
      have H := Lib.hid hsu; clear hsu
      go_wp2
      refine ⟨⟨k + 1, by omega, by go_num, ?_⟩, by simp [intOf]; omega⟩
      rw [H.out, u64_or8 m _ hb hv]
    · obtain rfl : k = s.size := by omega
      have H : Hid (nv (s.data.toList.take s.size) = vn s) := by unfold vn; rw [List.take_of_length_le (by rw [bytes_size]; exact Nat.le_refl _)]; rfl
      go_wp2
      go_ret2
      exact ⟨by rw [H.out]; rfl, rfl⟩

set_option maxHeartbeats 400000 in
theorem word_long (s : ByteArray) (w : World) (hs : 8 < s.size) (hm : s.size ≤ maxLen) :
    Calls Tryd.prog 116 #[.string s] w fun e w' => e = .returned (.tuple #[.int .u64 0, .bool false]) ∧ w = w' := by
  unfold maxLen at hm
  go_enter Tryd.func116, Tryd.ntmps116
  go_wp2
  go_ret2
  exact ⟨rfl, rfl⟩

theorem vn_ns_lt8 {s : ByteArray} (h : (ns (vn s)).size ≤ 8) : vn s < 18446744073709551616 := by
  have := vn_lt (ns (vn s))
  rw [vn_ns] at this
  have : 256 ^ (ns (vn s)).size ≤ 256 ^ 8 := Nat.pow_le_pow_right (by omega) h
  omega
theorem ns_size_le8 {n : Nat} (h : n < 18446744073709551616) : (ns n).size ≤ 8 := by
  rw [ns_size]; exact nb_length_lt (k := 8) (by omega)

/-- Int, of a number that is one. -/
theorem int_yes (s : ByteArray) (w : World) (hs : s.size ≤ maxLen) (hv : vn s ≤ 9223372036854775807) :
    Calls Tryd.prog 45 #[.string s] w fun e w' => e = .returned (.tuple #[.int .i64 (vn s), .bool true]) ∧ w = w' := by
  have h8 : (ns (vn s)).size ≤ 8 := ns_size_le8 (by omega)
  have hvv := vn_ns (vn s)
  have H := Lib.hid hvv; clear hvv
  have hw := word_any (ns (vn s)) w h8
  rw [H.out] at hw
  have HW := Lib.hid hw; clear hw
  generalize hq : vn s = q at *
  have HQ := Lib.hid hq; clear hq
  go_enter Tryd.func45, Tryd.ntmps45
  go_wp2_with fail
  refine (trim_any _ _ hs).mono ?_
  rintro e w' ⟨rfl, rfl⟩
  rw [HQ.out]
  go_wp2_with fail
  refine HW.out.mono ?_
  rintro e w' ⟨rfl, rfl⟩
  go_wp2_with fail
  go_ret2
  exact ⟨rfl, rfl⟩

theorem int_no (s : ByteArray) (w : World) (hs : s.size ≤ maxLen) (hv : 9223372036854775807 < vn s) :
    Calls Tryd.prog 45 #[.string s] w fun e w' => e = .returned (.tuple #[.int .i64 0, .bool false]) ∧ w = w' := by
  have hsz := ns_size_le s
  have hl := @vn_ns_lt8 s
  have hvv := vn_ns (vn s)
  have H := Lib.hid hvv; clear hvv
  by_cases h8 : (ns (vn s)).size ≤ 8
  · have hl' := hl h8
    have hw := word_any (ns (vn s)) w h8
    rw [H.out] at hw
    have HW := Lib.hid hw; clear hw
    clear hl hsz
    generalize hq : vn s = q at *
    have HQ := Lib.hid hq; clear hq
    have HL := Lib.hid hl'; clear hl'
    go_enter Tryd.func45, Tryd.ntmps45
    go_wp2_with fail
    refine (trim_any _ _ hs).mono ?_
    rintro e w' ⟨rfl, rfl⟩
    rw [HQ.out]
    go_wp2_with fail
    refine HW.out.mono ?_
    rintro e w' ⟨rfl, rfl⟩
    go_wp2_with fail
    go_ret2
    exact ⟨rfl, rfl⟩
  · have hw := word_long (ns (vn s)) w (by omega) (by omega)
    have HW := Lib.hid hw; clear hw
    clear hl hsz hv
    generalize hq : vn s = q at *
    have HQ := Lib.hid hq; clear hq
    go_enter Tryd.func45, Tryd.ntmps45
    go_wp2_with fail
    refine (trim_any _ _ hs).mono ?_
    rintro e w' ⟨rfl, rfl⟩
    rw [HQ.out]
    go_wp2_with fail
    refine HW.out.mono ?_
    rintro e w' ⟨rfl, rfl⟩
    go_wp2_with fail
    go_ret2
    exact ⟨rfl, rfl⟩
end Go.Proofs.YtbpdgfilffdegaaDoor
