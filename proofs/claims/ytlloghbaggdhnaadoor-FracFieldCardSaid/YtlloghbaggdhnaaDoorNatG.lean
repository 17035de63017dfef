/- Walks: nat.minus, limbs.less. -/
import Derived.Test.YtlloghbaggdhnaaDoorNatF
set_option linter.unusedVariables false
set_option linter.unusedSimpArgs false
namespace Go.Proofs.YtlloghbaggdhnaaDoor
open Go.RowKit

theorem u64_sub_lo (x t : Nat) (h : x < t) (ht : t ≤ 4294967296) : IntKind.u64.wrap ((x : Int) - ((t : Nat) : Int)) % 4294967296 = ((x + 4294967296 - t : Nat) : Int) := by
  rw [IntKind.wrap_u64]; omega
theorem u64_sub_hi (x t : Nat) (h : x < t) (ht : t ≤ 4294967296) : IntKind.u64.wrap ((x : Int) - ((t : Nat) : Int)) / 9223372036854775808 = ((1 : Nat) : Int) := by
  rw [IntKind.wrap_u64]; omega

set_option maxRecDepth 100000 in
set_option maxHeartbeats 2000000 in
theorem minus_any (l m : List Nat) (v1 v2 : Value) (w : World) (h1 : Limbs w v1 l) (h2 : Limbs w v2 m) (hle : lv m ≤ lv l) (hlen : m.length ≤ l.length) (hbig : l.length ≤ 274877906944) :
    Calls Tryd.prog 136 #[v1, v2] w (RetLimbs w (lv l - lv m)) := by
  obtain ⟨a1, p1, rfl, hnc1, hcm1, hcl⟩ := h1.op
  obtain ⟨a2, p2, rfl, hnc2, hcm2, hcm⟩ := h2.op
  unfold maxLen at hcm1 hcm2
  have hmk := make_cap el_limbs w .i64 .i64 l.length (by omega) (by decide)
  have hown0 := World.ownsRow_made (base := w.heap.size) (e := 148) (size := 1) w (madeCells #[Value.int IntKind.u32 0] l.length) l.length (Nat.le_refl _) (by unfold maxLen; omega) (by simp [size_madeCells])
  have hb0 := (Below.refl w.heap.size w).alloc (Nat.le_refl _) (.cells (madeCells #[Value.int IntKind.u32 0] l.length) 148)
  clear h1 h2
  have HLE := Lib.hid hle; clear hle
  go_enter Tryd.func136, Tryd.ntmps136
  go_wp2
  go_loopw [5, 6, 16] (fun o c q wr => ∃ (k cc : Nat) (os : List Nat), q = .int .i64 k ∧ k ≤ l.length ∧ c = .int .u64 cc ∧ cc ≤ 1 ∧ wr.ownsRow w.heap.size 148 1 o k (limbVals os) ∧ os.length = k ∧ Lim os ∧ lv os + lv (m.take k) = lv (l.take k) + 4294967296 ^ k * cc ∧ Below w.heap.size w wr) (fun _ _ q _ => l.length - (intOf q).toNat)
  case atStart => exact ⟨0, 0, [], rfl, Nat.zero_le _, rfl, by omega, hown0, rfl, lim_nil, by simp [lv_nil], hb0⟩
  case round =>
    obtain ⟨k, cc, os, rfl, hk, rfl, hcc, hown, ho, hlo, hlv, hbr⟩ := hrel
    have hszr : w.heap.size ≤ wr.heap.size := hbr.size
    clear hmk hown0 hb0
    by_cases hlt : k < l.length
    · obtain ⟨⟨b1, o1, rfl, hc1⟩, hx1⟩ := hcl k hlt
      have hc1r := (ext_cell hbr _ (by rw [hc1]; simp)).trans hc1
      have hst := fun y r c' hy hr => sub_step l m os k cc y r c' hlt ho hy hlv hr
      by_cases hlm : k < m.length
      · obtain ⟨⟨b2, o2, rfl, hc2⟩, hx2⟩ := hcm k hlm
        have hc2r := (ext_cell hbr _ (by rw [hc2]; simp)).trans hc2
        clear hcl hcm hc1 hc2
        generalize hyy : m.getD k default = y at *
        by_cases hxy : cc + y ≤ l.getD k default
        · have HH : Hid (os.length = k ∧ lv (os ++ [(l.getD k default - (cc + y))]) + lv (m.take (k + 1)) = lv (l.take (k + 1)) + 4294967296 ^ (k + 1) * 0) := ⟨ho, hst y (l.getD k default - (cc + y)) 0 (by rw [if_pos hlm]) (by omega)⟩
          generalize l.getD k default = x at *
          clear ho hlv hst
          go_wp2_with (at_builtin; go_must (refine wpList_app rfl _ _ 146 rfl w.heap.size el_limbs _ _ _ rfl (hown.alloc _) _ rfl 1 [.int .u32 (↑x - (↑cc + ↑y))] (SliceAt.lit _ _ 1 1 _ rfl (by decide)) rfl (one_int _ _) (by omega) (by decide) (le_alloc hszr _) ?_); intro v' w' hown' hg)
          have hbf := (hbr.alloc hszr (Obj.cells #[Value.int IntKind.u32 (↑x - (↑cc + ↑y))] 148)).grown hg (le_alloc hszr _) (fun k hk => (hown.lt k hk).1)
          obtain ⟨hoH, hH⟩ := HH.out
          have hval : (↑x - (↑cc + ↑y)) = ((x - (cc + y) : Nat) : Int) := by omega
          refine ⟨⟨k + 1, 0, _, by go_num, by omega, ?_, by omega, by rw [hval] at hown'; simpa [limbVals] using hown', by simp [hoH], lim_append.2 ⟨hlo, lim_cons.2 ⟨by omega, lim_nil⟩⟩, hH, hbf⟩, by simp [intOf]; omega⟩
          refine int_val ?_; omega
        · have HH : Hid (os.length = k ∧ lv (os ++ [(l.getD k default + 4294967296 - (cc + y))]) + lv (m.take (k + 1)) = lv (l.take (k + 1)) + 4294967296 ^ (k + 1) * 1) := ⟨ho, hst y (l.getD k default + 4294967296 - (cc + y)) 1 (by rw [if_pos hlm]) (by omega)⟩
          generalize l.getD k default = x at *
          clear ho hlv hst
          go_wp2_with (at_builtin; go_must (refine wpList_app rfl _ _ 146 rfl w.heap.size el_limbs _ _ _ rfl (hown.alloc _) _ rfl 1 [.int .u32 (IntKind.u64.wrap (↑x - (↑cc + ↑y)) % 4294967296)] (SliceAt.lit _ _ 1 1 _ rfl (by decide)) rfl (one_int _ _) (by omega) (by decide) (le_alloc hszr _) ?_); intro v' w' hown' hg)
          have hbf := (hbr.alloc hszr (Obj.cells #[Value.int IntKind.u32 (IntKind.u64.wrap (↑x - (↑cc + ↑y)) % 4294967296)] 148)).grown hg (le_alloc hszr _) (fun k hk => (hown.lt k hk).1)
          obtain ⟨hoH, hH⟩ := HH.out
          have hval : (IntKind.u64.wrap (↑x - (↑cc + ↑y)) % 4294967296) = ((x + 4294967296 - (cc + y) : Nat) : Int) := by have := u64_sub_lo x (cc + y) (by omega) (by omega); rw [← this]; rfl
          refine ⟨⟨k + 1, 1, _, by go_num, by omega, ?_, by omega, by rw [hval] at hown'; simpa [limbVals] using hown', by simp [hoH], lim_append.2 ⟨hlo, lim_cons.2 ⟨by omega, lim_nil⟩⟩, hH, hbf⟩, by simp [intOf]; omega⟩
          refine int_val ?_; exact u64_sub_hi x (cc + y) (by omega) (by omega)
      · clear hcl hcm hc1
        by_cases hxy : cc ≤ l.getD k default
        · have HH : Hid (os.length = k ∧ lv (os ++ [(l.getD k default - cc)]) + lv (m.take (k + 1)) = lv (l.take (k + 1)) + 4294967296 ^ (k + 1) * 0) := ⟨ho, hst 0 (l.getD k default - cc) 0 (by rw [if_neg hlm]) (by omega)⟩
          generalize l.getD k default = x at *
          clear ho hlv hst
          go_wp2_with (at_builtin; go_must (refine wpList_app rfl _ _ 146 rfl w.heap.size el_limbs _ _ _ rfl (hown.alloc _) _ rfl 1 [.int .u32 (↑x - ↑cc)] (SliceAt.lit _ _ 1 1 _ rfl (by decide)) rfl (one_int _ _) (by omega) (by decide) (le_alloc hszr _) ?_); intro v' w' hown' hg)
          have hbf := (hbr.alloc hszr (Obj.cells #[Value.int IntKind.u32 (↑x - ↑cc)] 148)).grown hg (le_alloc hszr _) (fun k hk => (hown.lt k hk).1)
          obtain ⟨hoH, hH⟩ := HH.out
          have hval : (↑x - ↑cc) = ((x - cc : Nat) : Int) := by omega
          refine ⟨⟨k + 1, 0, _, by go_num, by omega, ?_, by omega, by rw [hval] at hown'; simpa [limbVals] using hown', by simp [hoH], lim_append.2 ⟨hlo, lim_cons.2 ⟨by omega, lim_nil⟩⟩, hH, hbf⟩, by simp [intOf]; omega⟩
          refine int_val ?_; omega
        · have HH : Hid (os.length = k ∧ lv (os ++ [(l.getD k default + 4294967296 - cc)]) + lv (m.take (k + 1)) = lv (l.take (k + 1)) + 4294967296 ^ (k + 1) * 1) := ⟨ho, hst 0 (l.getD k default + 4294967296 - cc) 1 (by rw [if_neg hlm]) (by omega)⟩
          generalize l.getD k default = x at *
          clear ho hlv hst
          go_wp2_with (at_builtin; go_must (refine wpList_app rfl _ _ 146 rfl w.heap.size el_limbs _ _ _ rfl (hown.alloc _) _ rfl 1 [.int .u32 (IntKind.u64.wrap (↑x - ↑cc) % 4294967296)] (SliceAt.lit _ _ 1 1 _ rfl (by decide)) rfl (one_int _ _) (by omega) (by decide) (le_alloc hszr _) ?_); intro v' w' hown' hg)
          have hbf := (hbr.alloc hszr (Obj.cells #[Value.int IntKind.u32 (IntKind.u64.wrap (↑x - ↑cc) % 4294967296)] 148)).grown hg (le_alloc hszr _) (fun k hk => (hown.lt k hk).1)
          obtain ⟨hoH, hH⟩ := HH.out
          have hval : (IntKind.u64.wrap (↑x - ↑cc) % 4294967296) = ((x + 4294967296 - cc : Nat) : Int) := u64_sub_lo x cc (by omega) (by omega)
          refine ⟨⟨k + 1, 1, _, by go_num, by omega, ?_, by omega, by rw [hval] at hown'; simpa [limbVals] using hown', by simp [hoH], lim_append.2 ⟨hlo, lim_cons.2 ⟨by omega, lim_nil⟩⟩, hH, hbf⟩, by simp [intOf]; omega⟩
          refine int_val ?_; exact u64_sub_hi x cc (by omega) (by omega)
    · obtain rfl : k = l.length := by omega
      rw [List.take_of_length_le (Nat.le_refl _), List.take_of_length_le (by omega)] at hlv
      have hz : cc = 0 ∧ lv os = lv l - lv m := by
        have := lv_lt hlo
        rw [ho] at this
        have hle := HLE.out
        rcases Nat.lt_or_ge 0 cc with h | h
        · obtain rfl : cc = 1 := by omega
          have : lv l < 4294967296 ^ l.length := by omega
          omega
        · obtain rfl : cc = 0 := by omega
          exact ⟨rfl, by omega⟩
      have H : Hid (lv os = lv l - lv m) := hz.2
      have hL : Limbs wr u5 os := ⟨SliceAt.owned hown, hlo⟩
      have HF : Hid (FreshV w.heap.size u5) := FreshV.owned hown
      clear hcl hcm hlv hown ho hz
      go_wp2_with (go_at_call 170; refine (ltrim_any _ _ _ hL).mono ?_; rintro e w' ⟨v', rfl, hl', hf', rfl⟩)
      go_ret
      exact ⟨_, _, rfl, hl', can_ltrim _, by rw [lv_ltrim]; exact H.out, hf' _ HF.out, hbr⟩
end Go.Proofs.YtlloghbaggdhnaaDoor
