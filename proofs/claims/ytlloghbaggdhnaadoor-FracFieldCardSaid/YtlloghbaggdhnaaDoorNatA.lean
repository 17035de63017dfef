/- Walks: strings.TrimLeft at a nought, nat.Trim. Conditions: strings of at most maxLen bytes. -/
import Derived.Test.YtlloghbaggdhnaaDoorProg
import Derived.Test.YtlloghbaggdhnaaDoorNatP
import Derived.Test.YtlloghbaggdhnaaDoorKit
set_option linter.unusedVariables false
set_option linter.unusedSimpArgs false
namespace Go.Proofs.YtlloghbaggdhnaaDoor
open Go.RowKit

set_option maxHeartbeats 400000 in
theorem trimLeftByte_any (s : ByteArray) (w : World) (hs : s.size ≤ maxLen) :
    Calls Tryd.prog 185 #[.string s, .int .u8 0] w fun e w' => e = .returned (.string (ns (vn s))) ∧ w = w' := by
  unfold maxLen at hs
  go_enter Tryd.func185, Tryd.ntmps185
  go_wp2
  go_loop [0] (fun v => ∃ t : ByteArray, v = .string t ∧ t.size ≤ 9223372036854775807 ∧ vn t = vn s) strLen
  case atStart => exact ⟨s, rfl, hs, rfl⟩
  case round =>
    obtain ⟨t, rfl, ht, hv⟩ := hrel
    have HV := Lib.hid hv; clear hv
    by_cases h0 : 0 < t.size
    · go_wp2
      · have h1 : (↑t[0].toNat == (0 : Int)) = true := by assumption
        refine ⟨⟨_, rfl, ?_, ?_⟩, ?_⟩
        · rw [size_tail]; omega
        · rw [vn_tail t h0 (by simpa using h1), HV.out]
        · simp only [strLen, size_tail]; omega
      · have h1 : (↑t[0].toNat == (0 : Int)) = false := by assumption
        go_ret
        exact ⟨ret_str (by rw [← HV.out]; exact ns_of_head t h0 (by simpa using h1)), rfl⟩
    · go_wp2
      go_ret
      exact ⟨ret_str (by rw [← HV.out]; exact ns_of_empty t (by omega)), rfl⟩

set_option maxRecDepth 100000 in
set_option maxHeartbeats 400000 in
theorem trimLeft_any (s : ByteArray) (w : World) (hs : s.size ≤ maxLen) :
    Calls Tryd.prog 169 #[.string s, .string ⟨#[0]⟩] w fun e w' => e = .returned (.string (ns (vn s))) ∧ w = w' := by
  unfold maxLen at hs
  by_cases h0 : s.size = 0
  · have e := ns_of_empty s h0
    have h1 := toList_nil s h0
    have HE := Lib.hid e; clear e
    go_enter Tryd.func169, Tryd.ntmps169
    go_wp2_with fail
    go_ret
    exact ⟨ret_str HE.out, rfl⟩
  · have h1 := toList_ne s h0
    have h2 := isEmpty_false s h0
    go_enter Tryd.func169, Tryd.ntmps169
    go_wp2_with (go_at_call 185; refine (trimLeftByte_any _ _ (by unfold maxLen; omega)).mono ?_; rintro e w' ⟨rfl, rfl⟩)
    go_ret
    exact ⟨rfl, rfl⟩

set_option maxHeartbeats 400000 in
theorem trim_any (s : ByteArray) (w : World) (hs : s.size ≤ maxLen) :
    Calls Tryd.prog 130 #[.string s] w fun e w' => e = .returned (.string (ns (vn s))) ∧ w = w' := by
  go_enter Tryd.func130, Tryd.ntmps130
  go_wp2_with (go_at_call 169; refine (trimLeft_any _ _ hs).mono ?_; rintro e w' ⟨rfl, rfl⟩)
  go_ret
  exact ⟨rfl, rfl⟩
end Go.Proofs.YtlloghbaggdhnaaDoor
