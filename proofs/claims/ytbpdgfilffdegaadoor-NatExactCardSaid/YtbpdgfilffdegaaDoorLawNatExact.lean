/- The walk of the law NatExact: it returns true. Condition: strings within the form's own reach, an int64. -/
import Derived.Test.YtbpdgfilffdegaaDoorAcc
import Derived.Test.YtbpdgfilffdegaaDoorRefH
import Derived.OpenShut
set_option linter.unusedVariables false
set_option linter.unusedSimpArgs false
namespace Go.Proofs.YtbpdgfilffdegaaDoor
open Go Go.RowKit

set_option maxRecDepth 100000 in
set_option maxHeartbeats 1000000 in
theorem natExact_great (a b s : ByteArray) (n : Int) (w : World) (ha : a.size ≤ 140737488351232) (hb : b.size ≤ 140737488351232) (hc : s.size ≤ 140737488351232) (h : 700 < a.size + b.size + s.size) :
    Calls Tryd.prog 8 #[.string a, .string b, .int .i64 n, .string s] w (RetBool w true) := by
  go_enter Tryd.func8, Tryd.ntmps8
  go_wp2_with fail
  go_ret
  exact ⟨rfl, Below.refl _ _⟩

set_option maxRecDepth 100000 in
set_option maxHeartbeats 4000000 in
theorem natExact_small (a b s : ByteArray) (n : Int) (w : World) (h : a.size + b.size + s.size ≤ 700) (hn0 : -9223372036854775808 ≤ n) (hn : n ≤ 9223372036854775807) :
    Calls Tryd.prog 8 #[.string a, .string b, .int .i64 n, .string s] w (RetBool w true) := by
  have sa : a.size ≤ 137438953472 := by omega
  have sb : b.size ≤ 137438953472 := by omega
  have ss : s.size ≤ maxLen := by unfold maxLen; omega
  have ma : a.size ≤ maxLen := by unfold maxLen; omega
  obtain ⟨iv, ok, G1, G2⟩ : ∃ (iv : Int) (ok : Bool), Acc w 45 #[.string a] (.tuple #[.int .i64 iv, .bool ok]) ∧ Acc w 46 #[.string a] (.tuple #[.int .i64 iv, .bool ok]) := by
    rcases Nat.lt_or_ge 9223372036854775807 (vn a) with hv | hv
    · exact ⟨_, _, .pure fun w' => int_no a w' ma hv, .pure fun w' => rint_no a w' ma hv⟩
    · exact ⟨_, _, .pure fun w' => int_yes a w' ma hv, .pure fun w' => rint_yes a w' ma hv⟩
  obtain ⟨ta, G3, G4⟩ : ∃ r, Acc w 37 #[.string a] (.string r) ∧ Acc w 47 #[.string a] (.string r) := ⟨_, .pure fun w' => trim_any a w' ma, .pure fun w' => rtrim_any a w' ma⟩
  obtain ⟨on, G5, G6⟩ : ∃ r, Acc w 40 #[.int .i64 n] (.string r) ∧ Acc w 48 #[.int .i64 n] (.string r) := by
    refine ⟨ns n.toNat, ?_, .of fun w' => rof_any n w' hn hn0⟩
    rcases Int.lt_or_le n 0 with h0 | h0
    · rw [show n.toNat = 0 by omega]; exact .of fun w' => of_neg n w' h0
    · exact .of fun w' => of_any n w' h0 hn
  obtain ⟨c, G7, G8⟩ : ∃ r, Acc w 44 #[.string a, .string b] (.int .i64 r) ∧ Acc w 49 #[.string a, .string b] (.int .i64 r) := ⟨_, cmp_acc sa sb rfl, .of fun w' => rcmp_any a b w' (by omega) (by omega)⟩
  obtain ⟨sum, G9, G10⟩ : ∃ r, Acc w 38 #[.string a, .string b] (.string r) ∧ Acc w 50 #[.string a, .string b] (.string r) := ⟨_, add_acc sa sb rfl, .of fun w' => radd_any a b w' (by omega) (by omega)⟩
  obtain ⟨prod, G11, G12⟩ : ∃ r, Acc w 39 #[.string a, .string b] (.string r) ∧ Acc w 51 #[.string a, .string b] (.string r) := ⟨_, mul_acc sa sb rfl, .of fun w' => rmul_any a b w' sa sb⟩
  obtain ⟨gc, G13, G14⟩ : ∃ r, Acc w 42 #[.string a, .string b] (.string r) ∧ Acc w 52 #[.string a, .string b] (.string r) := ⟨_, gcd_acc sa sb rfl, .of fun w' => rgcd_any a b w' sa sb⟩
  obtain ⟨tx, G15, G16⟩ : ∃ r, Acc w 35 #[.string a] (.string r) ∧ Acc w 53 #[.string a] (.string r) := ⟨_, .of fun w' => text_any a w' sa, .of fun w' => rtext_any a w' sa⟩
  obtain ⟨df, dok, G17, G18⟩ : ∃ (r : ByteArray) (ok : Bool), Acc w 41 #[.string a, .string b] (.tuple #[.string r, .bool ok]) ∧ Acc w 54 #[.string a, .string b] (.tuple #[.string r, .bool ok]) := by
    rcases Nat.lt_or_ge (vn a) (vn b) with hv | hv
    · exact ⟨_, _, sub_acc0 sa sb hv rfl, .of fun w' => rsub_no a b w' (by omega) (by omega) hv⟩
    · exact ⟨_, _, sub_acc sa sb hv rfl, .of fun w' => rsub_yes a b w' (by omega) (by omega) hv⟩
  obtain ⟨qu, re, qok, G19, G20⟩ : ∃ (q r : ByteArray) (ok : Bool), Acc w 43 #[.string a, .string b] (.tuple #[.string q, .string r, .bool ok]) ∧ Acc w 55 #[.string a, .string b] (.tuple #[.string q, .string r, .bool ok]) := by
    by_cases hv : vn b = 0
    · exact ⟨_, _, _, div_acc0 sa sb hv rfl, .of fun w' => rdiv_zero a b w' sa sb hv⟩
    · exact ⟨_, _, _, div_acc sa sb hv rfl rfl, .of fun w' => rdiv_any a b w' sa sb hv⟩
  obtain ⟨pn, pe, G21, G22⟩ : ∃ (r : ByteArray) (e : Int), Acc w 36 #[.string s] (.tuple #[.string r, .int .i64 e]) ∧ Acc w 56 #[.string s] (.tuple #[.string r, .int .i64 e]) :=
    ⟨_, _, .of fun w' => parse_any s w' ss, .of fun w' => rparse_any s w' ss⟩
  have hb0 := Below.refl w.heap.size w
  clear sa sb ss ma
  go_enter Tryd.func8, Tryd.ntmps8
  go_wp2_with ((first | (go_at_call 45; first | with_reducible refine G1.go (by assumption) ?_) | (go_at_call 46; first | with_reducible refine G2.go (by assumption) ?_) | (go_at_call 37; first | with_reducible refine G3.go (by assumption) ?_) | (go_at_call 47; first | with_reducible refine G4.go (by assumption) ?_) | (go_at_call 40; first | with_reducible refine G5.go (by assumption) ?_) | (go_at_call 48; first | with_reducible refine G6.go (by assumption) ?_) | (go_at_call 44; first | with_reducible refine G7.go (by assumption) ?_) | (go_at_call 49; first | with_reducible refine G8.go (by assumption) ?_) | (go_at_call 38; first | with_reducible refine G9.go (by assumption) ?_) | (go_at_call 50; first | with_reducible refine G10.go (by assumption) ?_) | (go_at_call 39; first | with_reducible refine G11.go (by assumption) ?_) | (go_at_call 51; first | with_reducible refine G12.go (by assumption) ?_) | (go_at_call 42; first | with_reducible refine G13.go (by assumption) ?_) | (go_at_call 52; first | with_reducible refine G14.go (by assumption) ?_) | (go_at_call 35; first | with_reducible refine G15.go (by assumption) ?_) | (go_at_call 53; first | with_reducible refine G16.go (by assumption) ?_) | (go_at_call 41; first | with_reducible refine G17.go (by assumption) ?_) | (go_at_call 54; first | with_reducible refine G18.go (by assumption) ?_) | (go_at_call 43; first | with_reducible refine G19.go (by assumption) ?_) | (go_at_call 55; first | with_reducible refine G20.go (by assumption) ?_) | (go_at_call 36; first | with_reducible refine G21.go (by assumption) ?_) | (go_at_call 56; first | with_reducible refine G22.go (by assumption) ?_)); intro w' hb')
  go_ret
  exact ⟨rfl, by assumption⟩

theorem natExact_any (a b : ByteArray) (n : Int) (s : ByteArray) (w : World) (ha : a.size ≤ 140737488351232) (hb : b.size ≤ 140737488351232) (hn : (Lit.int .i64 n).wf = true) (hc : s.size ≤ 140737488351232) :
    Calls Tryd.prog 8 #[.string a, .string b, .int .i64 n, .string s] w (RetBool w true) := by
  rcases Nat.lt_or_ge 700 (a.size + b.size + s.size) with h | h
  · exact natExact_great a b s n w ha hb hc h
  · exact natExact_small a b s n w h (bounds_i64 hn).1 (bounds_i64 hn).2
end Go.Proofs.YtbpdgfilffdegaaDoor
