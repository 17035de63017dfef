/- Walks: nat.word, nat.Int. -/
import Derived.Test.YtlloghbaggdhnaaDoorNatB
set_option linter.unusedVariables false
set_option linter.unusedSimpArgs false
namespace Go.Proofs.YtlloghbaggdhnaaDoor
open Go.RowKit

theorem nv_take_succ (s : ByteArray) (i : Nat) (h : i < s.size) : nv (s.data.toList.take (i + 1)) = nv (s.data.toList.take i) * 256 + s[i].toNat := by
  rw [List.take_succ_eq_append_getElem (by rw [bytes_size]; exact h), nv_snoc, bytes_get s i h]
theorem nv_take_lt (s : ByteArray) (i : Nat) (h : i < s.size) (h8 : s.size ≤ 8) : nv (s.data.toList.take i) < 72057594037927936 := by
  have := nv_lt (s.data.toList.take i)
  have hl : (s.data.toList.take i).length ≤ 7 := by rw [List.length_take]; omega
  have : 256 ^ (s.data.toList.take i).length ≤ 256 ^ 7 := Nat.pow_le_pow_right (by omega) hl
  omega

set_option maxHeartbeats 400000 in
theorem word_any (s : ByteArray) (w : World) (hs : s.size ≤ 8) :
    Calls Tryd.prog 172 #[.string s] w fun e w' => e = .returned (.tuple #[.int .u64 (vn s), .bool true]) ∧ w = w' := by
  go_enter Tryd.func172, Tryd.ntmps172
  go_wp2
  go_loop [4, 11] (fun n i => ∃ k : Nat, k ≤ s.size ∧ i = .int .i64 k ∧ n = .int .u64 (nv (s.data.toList.take k))) (fun _ i => s.size - (intOf i).toNat)
  case atStart => exact ⟨0, by omega, rfl, rfl⟩
  case round =>
    obtain ⟨k, hk, rfl, rfl⟩ := hrel
    by_cases hlt : k < s.size
    · have hv := nv_take_lt s k hlt hs
      have hsu := nv_take_succ s k hlt
      generalize nv (s.data.toList.take k) = m at *
      have hb : s[k].toNat < 256 := s[k].toNat_lt
      have H := Lib.hid hsu; clear hsu
      go_wp2
      refine ⟨⟨k + 1, by omega, by go_num, ?_⟩, by simp [intOf]; omega⟩
      rw [H.out, u64_or8 m _ hb hv]
    · obtain rfl : k = s.size := by omega
      have H : Hid (nv (s.data.toList.take s.size) = vn s) := by unfold vn; rw [List.take_of_length_le (by rw [bytes_size]; exact Nat.le_refl _)]; rfl
      go_wp2
      go_ret2
      exact ⟨by rw [H.out]; rfl, rfl⟩

set_option maxHeartbeats 400000 in
theorem word_long (s : ByteArray) (w : World) (hs : 8 < s.size) (hm : s.size ≤ maxLen) :
    Calls Tryd.prog 172 #[.string s] w fun e w' => e = .returned (.tuple #[.int .u64 0, .bool false]) ∧ w = w' := by
  unfold maxLen at hm
  go_enter Tryd.func172, Tryd.ntmps172
  go_wp2
  go_ret2
  exact ⟨rfl, rfl⟩

theorem vn_ns_lt8 {s : ByteArray} (h : (ns (vn s)).size ≤ 8) : vn s < 18446744073709551616 := by
  have := vn_lt (ns (vn s))
  rw [vn_ns] at this
  have : 256 ^ (ns (vn s)).size ≤ 256 ^ 8 := Nat.pow_le_pow_right (by omega) h
  omega
theorem ns_size_le8 {n : Nat} (h : n < 18446744073709551616) : (ns n).size ≤ 8 := by
  rw [ns_size]; exact nb_length_lt (k := 8) (by omega)

end Go.Proofs.YtlloghbaggdhnaaDoor
