/- The walk of the law NatRing: it returns true. Condition: strings within the form's own reach. -/
import Derived.Test.YtbpdgfilffdegaaDoorAcc
set_option linter.unusedVariables false
set_option linter.unusedSimpArgs false
namespace Go.Proofs.YtbpdgfilffdegaaDoor
open Go Go.RowKit

set_option maxRecDepth 100000 in
set_option maxHeartbeats 1000000 in
theorem natRing_great (a b c : ByteArray) (w : World) (ha : a.size ≤ 140737488351232) (hb : b.size ≤ 140737488351232) (hc : c.size ≤ 140737488351232) (h : 300 < a.size + b.size + c.size) :
    Calls Tryd.prog 7 #[.string a, .string b, .string c] w (RetBool w true) := by
  go_enter Tryd.func7, Tryd.ntmps7
  go_wp2_with fail
  go_ret
  exact ⟨rfl, Below.refl _ _⟩

set_option maxRecDepth 100000 in
set_option maxHeartbeats 4000000 in
theorem natRing_small (a b c : ByteArray) (w : World) (h : a.size + b.size + c.size ≤ 300) :
    Calls Tryd.prog 7 #[.string a, .string b, .string c] w (RetBool w true) := by
  have za : Sz (vn a) 300 := (Sz.of a).up (by omega)
  have zb : Sz (vn b) 300 := (Sz.of b).up (by omega)
  have zc : Sz (vn c) 300 := (Sz.of c).up (by omega)
  have sa : a.size ≤ 137438953472 := by omega
  have sb : b.size ≤ 137438953472 := by omega
  have sc : c.size ≤ 137438953472 := by omega
  have go : ∀ {s : ByteArray} {n k : Nat}, s = ns n → Sz n k → k ≤ 2000 → s.size ≤ 137438953472 := fun e z hk => by have := z.str; rw [e]; omega
  have go' : ∀ {s : ByteArray} {n : Nat}, s = ns n → vn s = n := fun e => by rw [e, vn_ns]
  obtain ⟨s, es⟩ : ∃ s, s = ns (vn a + vn b) := ⟨_, rfl⟩
  obtain ⟨ab, eab⟩ : ∃ s, s = ns (vn a * vn b) := ⟨_, rfl⟩
  obtain ⟨abc, eabc⟩ : ∃ s, s = ns (vn a + vn b + vn c) := ⟨_, rfl⟩
  obtain ⟨bc, ebc⟩ : ∃ s, s = ns (vn b + vn c) := ⟨_, rfl⟩
  obtain ⟨mbc, embc⟩ : ∃ s, s = ns (vn b * vn c) := ⟨_, rfl⟩
  obtain ⟨mac, emac⟩ : ∃ s, s = ns (vn a * vn c) := ⟨_, rfl⟩
  obtain ⟨mabc, emabc⟩ : ∃ s, s = ns (vn a * vn b * vn c) := ⟨_, rfl⟩
  obtain ⟨msc, emsc⟩ : ∃ s, s = ns ((vn a + vn b) * vn c) := ⟨_, rfl⟩
  obtain ⟨one, eone⟩ : ∃ s, s = ns 1 := ⟨_, rfl⟩
  obtain ⟨ta, eta⟩ : ∃ s, s = ns (vn a) := ⟨_, rfl⟩
  obtain ⟨tb, etb⟩ : ∃ s, s = ns (vn b) := ⟨_, rfl⟩
  obtain ⟨g, eg⟩ : ∃ s, s = ns (Nat.gcd (vn a) (vn b)) := ⟨_, rfl⟩
  have zab := za.mul zb
  have hg : Nat.gcd (vn a) (vn b) ≤ vn a + vn b := by
    rcases Nat.eq_zero_or_pos (vn b) with h0 | h0
    · rw [h0, Nat.gcd_zero_right]; omega
    · have := Nat.le_of_dvd h0 (Nat.gcd_dvd_right (vn a) (vn b)); omega
  have zg := (za.add zb).le hg
  have s_s := go es (za.add zb) (by omega)
  have s_ab := go eab zab (by omega)
  have s_bc := go ebc (zb.add zc) (by omega)
  have s_mbc := go embc (zb.mul zc) (by omega)
  have s_mac := go emac (za.mul zc) (by omega)
  have s_one := go (k := 1) eone (by unfold Sz; omega) (by omega)
  have s_g := go eg zg (by omega)
  have G1 : Acc w 38 #[.string a, .string b] (.string s) := add_acc sa sb es
  have G2 : Acc w 38 #[.string b, .string a] (.string s) := add_acc sb sa (by rw [es, Nat.add_comm])
  have G3 : Acc w 39 #[.string a, .string b] (.string ab) := mul_acc sa sb eab
  have G4 : Acc w 39 #[.string b, .string a] (.string ab) := mul_acc sb sa (by rw [eab, Nat.mul_comm])
  have G5 : Acc w 38 #[.string s, .string c] (.string abc) := add_acc s_s sc (by rw [eabc, go' es])
  have G6 : Acc w 38 #[.string b, .string c] (.string bc) := add_acc sb sc ebc
  have G7 : Acc w 38 #[.string a, .string bc] (.string abc) := add_acc sa s_bc (by rw [eabc, go' ebc, Nat.add_assoc])
  have G8 : Acc w 39 #[.string ab, .string c] (.string mabc) := mul_acc s_ab sc (by rw [emabc, go' eab])
  have G9 : Acc w 39 #[.string b, .string c] (.string mbc) := mul_acc sb sc embc
  have G10 : Acc w 39 #[.string a, .string mbc] (.string mabc) := mul_acc sa s_mbc (by rw [emabc, go' embc, Nat.mul_assoc])
  have G11 : Acc w 39 #[.string s, .string c] (.string msc) := mul_acc s_s sc (by rw [emsc, go' es])
  have G12 : Acc w 39 #[.string a, .string c] (.string mac) := mul_acc sa sc emac
  have G13 : Acc w 38 #[.string mac, .string mbc] (.string msc) := add_acc s_mac s_mbc (by rw [emsc, go' emac, go' embc, Nat.add_mul])
  have G14 : Acc w 40 #[.int .i64 1] (.string one) := of_acc (by omega) (by omega) eone
  have G15 : Acc w 39 #[.string a, .string one] (.string ta) := mul_acc sa s_one (by rw [eta, go' eone, Nat.mul_one])
  have G16 : Acc w 37 #[.string a] (.string ta) := trim_acc sa eta
  have G17 : Acc w 38 #[.string a, .string ⟨#[]⟩] (.string ta) := add_acc sa (Nat.zero_le _) (by rw [eta, vn_nil]; rfl)
  have G18 : Acc w 41 #[.string s, .string b] (.tuple #[.string ta, .bool true]) := sub_acc s_s sb (by rw [go' es]; omega) (by rw [eta, go' es]; congr 1; omega)
  have G19 : Acc w 42 #[.string a, .string b] (.string g) := gcd_acc sa sb eg
  have G20 : Acc w 37 #[.string b] (.string tb) := trim_acc sb etb
  rcases Nat.eq_zero_or_pos (vn b) with h0 | h0
  · have G21 : Acc w 43 #[.string a, .string b] (.tuple #[.string ⟨#[]⟩, .string ⟨#[]⟩, .bool false]) := div_acc0 sa sb h0 ns_zero.symm
    obtain rfl : g = ta := by rw [eg, eta, h0, Nat.gcd_zero_right]
    obtain rfl : tb = ⟨#[]⟩ := by rw [etb, h0, ns_zero]
    have hb0 := Below.refl w.heap.size w
    clear za zb zc sa sb sc go go' es eab eabc ebc embc emac emabc emsc eone eta etb eg zab hg zg s_s s_ab s_bc s_mbc s_mac s_one s_g h0
    go_enter Tryd.func7, Tryd.ntmps7
    go_wp2_with ((first | (go_at_call 38; first | with_reducible refine G1.go (by assumption) ?_ | with_reducible refine G2.go (by assumption) ?_ | with_reducible refine G5.go (by assumption) ?_ | with_reducible refine G6.go (by assumption) ?_ | with_reducible refine G7.go (by assumption) ?_ | with_reducible refine G13.go (by assumption) ?_ | with_reducible refine G17.go (by assumption) ?_) | (go_at_call 39; first | with_reducible refine G3.go (by assumption) ?_ | with_reducible refine G4.go (by assumption) ?_ | with_reducible refine G8.go (by assumption) ?_ | with_reducible refine G9.go (by assumption) ?_ | with_reducible refine G10.go (by assumption) ?_ | with_reducible refine G11.go (by assumption) ?_ | with_reducible refine G12.go (by assumption) ?_ | with_reducible refine G15.go (by assumption) ?_) | (go_at_call 40; first | with_reducible refine G14.go (by assumption) ?_) | (go_at_call 37; first | with_reducible refine G16.go (by assumption) ?_ | with_reducible refine G20.go (by assumption) ?_) | (go_at_call 41; first | with_reducible refine G18.go (by assumption) ?_) | (go_at_call 42; first | with_reducible refine G19.go (by assumption) ?_) | (go_at_call 43; first | with_reducible refine G21.go (by assumption) ?_)); intro w' hb')
    go_ret
    exact ⟨rfl, by assumption⟩
  · have hgp : 0 < Nat.gcd (vn a) (vn b) := Nat.pos_of_dvd_of_pos (Nat.gcd_dvd_right _ _) h0
    obtain ⟨q, eq⟩ : ∃ s, s = ns (vn a / vn b) := ⟨_, rfl⟩
    obtain ⟨r, er⟩ : ∃ s, s = ns (vn a % vn b) := ⟨_, rfl⟩
    obtain ⟨ag, eag⟩ : ∃ s, s = ns (vn a / Nat.gcd (vn a) (vn b)) := ⟨_, rfl⟩
    obtain ⟨bg, ebg⟩ : ∃ s, s = ns (vn b / Nat.gcd (vn a) (vn b)) := ⟨_, rfl⟩
    obtain ⟨qb, eqb⟩ : ∃ s, s = ns (vn a / vn b * vn b) := ⟨_, rfl⟩
    obtain ⟨gg, egg⟩ : ∃ s, s = ns (Nat.gcd (vn a) (vn b) * vn c) := ⟨_, rfl⟩
    have zq := za.le (Nat.div_le_self (vn a) (vn b))
    have zr := za.le (Nat.mod_le (vn a) (vn b))
    have s_q := go eq zq (by omega)
    have s_r := go er zr (by omega)
    have s_qb := go eqb (zq.mul zb) (by omega)
    have G22 : Acc w 43 #[.string a, .string b] (.tuple #[.string q, .string r, .bool true]) := div_acc sa sb (by omega) eq er
    have G23 : Acc w 43 #[.string a, .string g] (.tuple #[.string ag, .string ⟨#[]⟩, .bool true]) := div_acc sa s_g (by rw [go' eg]; omega) (by rw [go' eg, eag]) (by rw [go' eg, Nat.mod_eq_zero_of_dvd (Nat.gcd_dvd_left _ _), ns_zero])
    have G24 : Acc w 43 #[.string b, .string g] (.tuple #[.string bg, .string ⟨#[]⟩, .bool true]) := div_acc sb s_g (by rw [go' eg]; omega) (by rw [go' eg, ebg]) (by rw [go' eg, Nat.mod_eq_zero_of_dvd (Nat.gcd_dvd_right _ _), ns_zero])
    have G25 : Acc w 39 #[.string q, .string b] (.string qb) := mul_acc s_q sb (by rw [eqb, go' eq])
    have G26 : Acc w 38 #[.string qb, .string r] (.string ta) := add_acc s_qb s_r (by rw [eta, go' eqb, go' er, Nat.div_add_mod'])
    have G27 : Acc w 44 #[.string r, .string b] (.int .i64 (-1)) := cmp_acc s_r sb (by rw [go' er, cmpN, if_pos (Nat.mod_lt _ h0)])
    have G28 : Acc w 42 #[.string mac, .string mbc] (.string gg) := gcd_acc s_mac s_mbc (by rw [egg, go' emac, go' embc, Nat.gcd_mul_right])
    have G29 : Acc w 39 #[.string g, .string c] (.string gg) := mul_acc s_g sc (by rw [egg, go' eg])
    have hb0 := Below.refl w.heap.size w
    have n0 : tb.size ≠ 0 := by rw [etb]; exact ns_pos_size (by omega)
    have n1 := toList_ne _ n0
    have n2 := isEmpty_false _ n0
    clear za zb zc sa sb sc go go' es eab eabc ebc embc emac emabc emsc eone eta etb eg zab hg zg s_s s_ab s_bc s_mbc s_mac s_one s_g h0 hgp eq er eag ebg eqb egg zq zr s_q s_r s_qb n0
    go_enter Tryd.func7, Tryd.ntmps7
    go_wp2_with ((first | (go_at_call 38; first | with_reducible refine G1.go (by assumption) ?_ | with_reducible refine G2.go (by assumption) ?_ | with_reducible refine G5.go (by assumption) ?_ | with_reducible refine G6.go (by assumption) ?_ | with_reducible refine G7.go (by assumption) ?_ | with_reducible refine G13.go (by assumption) ?_ | with_reducible refine G17.go (by assumption) ?_ | with_reducible refine G26.go (by assumption) ?_) | (go_at_call 39; first | with_reducible refine G3.go (by assumption) ?_ | with_reducible refine G4.go (by assumption) ?_ | with_reducible refine G8.go (by assumption) ?_ | with_reducible refine G9.go (by assumption) ?_ | with_reducible refine G10.go (by assumption) ?_ | with_reducible refine G11.go (by assumption) ?_ | with_reducible refine G12.go (by assumption) ?_ | with_reducible refine G15.go (by assumption) ?_ | with_reducible refine G25.go (by assumption) ?_ | with_reducible refine G29.go (by assumption) ?_) | (go_at_call 40; first | with_reducible refine G14.go (by assumption) ?_) | (go_at_call 37; first | with_reducible refine G16.go (by assumption) ?_ | with_reducible refine G20.go (by assumption) ?_) | (go_at_call 41; first | with_reducible refine G18.go (by assumption) ?_) | (go_at_call 42; first | with_reducible refine G19.go (by assumption) ?_ | with_reducible refine G28.go (by assumption) ?_) | (go_at_call 43; first | with_reducible refine G21.go (by assumption) ?_ | with_reducible refine G22.go (by assumption) ?_ | with_reducible refine G23.go (by assumption) ?_ | with_reducible refine G24.go (by assumption) ?_) | (go_at_call 44; first | with_reducible refine G27.go (by assumption) ?_)); intro w' hb')
    go_ret
    exact ⟨rfl, by assumption⟩

theorem natRing_any (a b c : ByteArray) (w : World) (ha : a.size ≤ 140737488351232) (hb : b.size ≤ 140737488351232) (hc : c.size ≤ 140737488351232) :
    Calls Tryd.prog 7 #[.string a, .string b, .string c] w (RetBool w true) := by
  rcases Nat.lt_or_ge 300 (a.size + b.size + c.size) with h | h
  · exact natRing_great a b c w ha hb hc h
  · exact natRing_small a b c w h
end Go.Proofs.YtbpdgfilffdegaaDoor
