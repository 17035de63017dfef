/- Walks: limbs.less, limbs.twice. -/
import Derived.Test.YtlloghbaggdhnaaDoorNatG
import Derived.Deep.QuietTactic
import Derived.BigQuiet
set_option linter.unusedVariables false
set_option linter.unusedSimpArgs false
namespace Go.Proofs.YtlloghbaggdhnaaDoor
open Go.RowKit

def RetBool (w : World) (b : Bool) (e : Ending) (w' : World) : Prop := e = .returned (.bool b) ∧ Below w.heap.size w w'

set_option maxRecDepth 100000 in
set_option maxHeartbeats 1000000 in
theorem less_any (l m : List Nat) (v1 v2 : Value) (w : World) (h1 : Limbs w v1 l) (h2 : Limbs w v2 m) (hcl : Can l) (hcm : Can m) :
    Calls Tryd.prog 191 #[v1, v2] w (RetBool w (decide (lv l < lv m))) := by
  have hll := h1.2
  have hlm := h2.2
  obtain ⟨a1, p1, rfl, hnc1, hcm1, hc1⟩ := h1.op
  obtain ⟨a2, p2, rfl, hnc2, hcm2, hc2⟩ := h2.op
  unfold maxLen at hcm1 hcm2
  clear h1 h2
  by_cases hne : l.length = m.length
  · have hd : ((l.length : Int) != (m.length : Int)) = false := by simp [hne]
    have HNE := Lib.hid hne; clear hne
    go_enter Tryd.func191, Tryd.ntmps191
    go_wp2
    go_loopw [5] (fun q wr => ∃ i : Int, q = .int .i64 i ∧ -1 ≤ i ∧ i < l.length ∧ l.drop (i + 1).toNat = m.drop (i + 1).toNat ∧ Below w.heap.size w wr) (fun q _ => (intOf q + 1).toNat)
    case atStart => exact ⟨_, rfl, by omega, by omega, by rw [List.drop_of_length_le (by omega), List.drop_of_length_le (by have := HNE.out; omega)], Below.refl _ _⟩
    case round =>
      obtain ⟨i, rfl, hi1, hi2, hdr, hb⟩ := hrel
      by_cases hi : 0 ≤ i
      · obtain ⟨k, rfl⟩ := Int.eq_ofNat_of_zero_le hi
        have hk : k < l.length := by omega
        have hkm : k < m.length := by have := HNE.out; omega
        obtain ⟨⟨b1, o1, rfl, hcc1⟩, hx1⟩ := hc1 k hk
        obtain ⟨⟨b2, o2, rfl, hcc2⟩, hx2⟩ := hc2 k hkm
        have hr1 := (ext_cell hb _ (by rw [hcc1]; simp)).trans hcc1
        have hr2 := (ext_cell hb _ (by rw [hcc2]; simp)).trans hcc2
        rw [show ((k : Int) + 1).toNat = k + 1 by omega] at hdr
        have hst := drop_step k HNE.out hk hdr
        have hlt := less_lt hll k HNE.out hk hdr
        have hgt := less_lt hlm k HNE.out.symm hkm hdr.symm
        generalize l.getD k default = x at *
        generalize m.getD k default = y at *
        have H : Hid ((x = y → l.drop k = m.drop k) ∧ (x < y → lv l < lv m) ∧ (y < x → lv m < lv l)) := ⟨hst, hlt, hgt⟩
        clear hst hlt hgt hcc1 hcc2 hc1 hc2 hdr
        by_cases hxy : x = y
        · subst hxy
          go_wp2
          go_quiet (fail)
          go_wp2
          refine ⟨⟨_, rfl, by omega, by omega, ?_, below_drewN hb _⟩, by simp [intOf]⟩
          rw [show ((k : Int) - 1 + 1).toNat = k by omega]
          first | exact H.out.1 rfl | exact H.out.1 trivial
        · have hb1 : ((x : Int) != (y : Int)) = true := by simp; omega
          go_wp2
          go_quiet (fail)
          go_wp2
          go_quiet (fail)
          go_wp2
          go_ret
          refine ⟨ret_bool ?_, below_drewN (below_drewN hb _) _⟩
          obtain ⟨_, h2, h3⟩ := H.out
          rcases Nat.lt_or_ge x y with h | h
          · simp [h, h2 h]
          · have := h3 (by omega)
            simp; omega
      · obtain rfl : i = -1 := by omega
        have hlm' : l = m := by simpa using hdr
        clear hc1 hc2
        go_wp2
        go_ret
        exact ⟨ret_bool (by first | rfl | (rw [hlm']; simp)), hb⟩
  · have hd : ((l.length : Int) != (m.length : Int)) = true := by simp; omega
    go_enter Tryd.func191, Tryd.ntmps191
    go_wp2
    go_ret
    refine ⟨ret_bool ?_, Below.refl _ _⟩
    rcases Nat.lt_or_ge l.length m.length with h | h
    · simp [h, can_length_lt hll hcm h]
    · have := can_length_lt hlm hcl (show m.length < l.length by omega)
      simp; omega

theorem u32_or1 (x b : Nat) (hb : b ≤ 1) (hx : x < 4294967296) : bits .or .u32 ((x : Int) * 2 % 4294967296) (b : Int) = ((x * 2 % 4294967296 + b : Nat) : Int) := by
  have h := u32_or_nat (x % 2147483648 * 2) b (by omega) (by omega)
  rw [or_shift (x % 2147483648) b 1 (by omega)] at h
  rw [show (x : Int) * 2 % 4294967296 = ((x % 2147483648 * 2 ^ 1 : Nat) : Int) by omega, h]
  congr 1
  omega

/-- One step of a doubling. -/
theorem twice_step (l o : List Nat) (k b b0 x : Nat) (hk : k < l.length) (ho : o.length = k) (hx : l.getD k default = x) (hxl : x < 4294967296)
    (h : lv o + 4294967296 ^ k * b = 2 * lv (l.take k) + b0) :
    lv (o ++ [x * 2 % 4294967296 + b]) + 4294967296 ^ (k + 1) * (x / 2147483648) = 2 * lv (l.take (k + 1)) + b0 := by
  rw [take_snoc l k hk, lv_snoc, lv_snoc, List.length_take, Nat.min_eq_left (by omega), hx, ho, Nat.pow_succ, Nat.mul_assoc, Nat.mul_add, Nat.mul_add]
  have e : 4294967296 ^ k * (x * 2) = 4294967296 ^ k * (x * 2 % 4294967296) + 4294967296 ^ k * (4294967296 * (x / 2147483648)) := by
    rw [← Nat.mul_add]; congr 1; omega
  have e2 : 2 * (4294967296 ^ k * x) = 4294967296 ^ k * (x * 2) := by rw [Nat.mul_left_comm, Nat.mul_comm 2 x]
  omega

set_option maxRecDepth 100000 in
set_option maxHeartbeats 1000000 in
theorem twice_any (l : List Nat) (v : Value) (b0 : Nat) (w : World) (h1 : Limbs w v l) (hb0 : b0 ≤ 1) (hbig : l.length ≤ 274877906944) :
    Calls Tryd.prog 190 #[v, .int .u32 (b0 : Nat)] w (RetLimbs w (2 * lv l + b0)) := by
  obtain ⟨a1, p1, rfl, hnc1, hcm1, hcl⟩ := h1.op
  unfold maxLen at hcm1
  have hmk := make_cap el_limbs w .i64 .i64 (l.length + 1) (by omega) (by decide)
  rw [show ((l.length + 1 : Nat) : Int) = (l.length : Int) + 1 by omega] at hmk
  have hown0 := World.ownsRow_made (base := w.heap.size) (e := 148) (size := 1) w (madeCells #[Value.int IntKind.u32 0] (l.length + 1)) (l.length + 1) (Nat.le_refl _) (by unfold maxLen; omega) (by simp [size_madeCells])
  have hbm := (Below.refl w.heap.size w).alloc (Nat.le_refl _) (.cells (madeCells #[Value.int IntKind.u32 0] (l.length + 1)) 148)
  clear h1
  go_enter Tryd.func190, Tryd.ntmps190
  go_wp2
  go_loopw [1, 5, 14] (fun c o q wr => ∃ (k cc : Nat) (os : List Nat), q = .int .i64 k ∧ k ≤ l.length ∧ c = .int .u32 cc ∧ cc ≤ 1 ∧ wr.ownsRow w.heap.size 148 1 o k (limbVals os) ∧ os.length = k ∧ Lim os ∧ lv os + 4294967296 ^ k * cc = 2 * lv (l.take k) + b0 ∧ Below w.heap.size w wr) (fun _ _ q _ => l.length - (intOf q).toNat)
  case atStart => exact ⟨0, b0, [], rfl, Nat.zero_le _, rfl, hb0, hown0, rfl, lim_nil, by simp [lv_nil], hbm⟩
  case round =>
    obtain ⟨k, cc, os, rfl, hk, rfl, hcc, hown, ho, hlo, hlv, hbr⟩ := hrel
    have hszr : w.heap.size ≤ wr.heap.size := hbr.size
    clear hmk hown0 hbm
    by_cases hlt : k < l.length
    · obtain ⟨⟨b1, o1, rfl, hc1⟩, hx1⟩ := hcl k hlt
      have hc1r := (ext_cell hbr _ (by rw [hc1]; simp)).trans hc1
      have hst := fun x hx hxl => twice_step l os k cc b0 x hlt ho hx hxl hlv
      have HH : Hid (os.length = k ∧ _) := ⟨ho, hst _ rfl hx1⟩
      generalize l.getD k default = x at *
      have hor := u32_or1 x cc hcc hx1
      clear ho hlv hst hcl hc1
      go_wp2_with (at_builtin; go_must (refine wpList_app rfl _ _ 146 rfl w.heap.size el_limbs _ _ _ rfl (hown.alloc _) _ rfl 1 [.int .u32 ((x * 2 % 4294967296 + cc : Nat) : Int)] (SliceAt.lit _ _ 1 1 _ rfl (by decide)) rfl (one_int _ _) (by omega) (by decide) (le_alloc hszr _) ?_); intro v' w' hown' hg)
      have hbf := (hbr.alloc hszr (Obj.cells #[Value.int IntKind.u32 ((x * 2 % 4294967296 + cc : Nat) : Int)] 148)).grown hg (le_alloc hszr _) (fun k hk => (hown.lt k hk).1)
      obtain ⟨hoH, hH⟩ := HH.out
      exact ⟨⟨k + 1, x / 2147483648, _, by go_num, by omega, by go_num, by omega, by simpa [limbVals] using hown', by simp [hoH], lim_append.2 ⟨hlo, lim_cons.2 ⟨by omega, lim_nil⟩⟩, hH, hbf⟩, by simp [intOf]; omega⟩
    · obtain rfl : k = l.length := by omega
      rw [List.take_of_length_le (Nat.le_refl _)] at hlv
      have HH : Hid (lv (os ++ [cc]) = 2 * lv l + b0) := by rw [Hid, lv_snoc, ho, hlv]
      clear hcl hlv ho
      go_wp2_with (first
        | (at_builtin; go_must (refine wpList_app rfl _ _ 146 rfl w.heap.size el_limbs _ _ _ rfl (hown.alloc _) _ rfl 1 [.int .u32 (cc : Int)] (SliceAt.lit _ _ 1 1 _ rfl (by decide)) rfl (one_int _ _) (by omega) (by decide) (le_alloc hszr _) ?_); intro v' w' hown' hg)
        | (go_at_call 170; go_must (refine (ltrim_any (os ++ [cc]) _ _ ⟨SliceAt.owned (by simpa [limbVals] using hown'), lim_append.2 ⟨hlo, lim_cons.2 ⟨by omega, lim_nil⟩⟩⟩).mono ?_); rintro e w'' ⟨v'', rfl, hl', hf', rfl⟩))
      have hbf := (hbr.alloc hszr (Obj.cells #[Value.int IntKind.u32 (cc : Int)] 148)).grown hg (le_alloc hszr _) (fun k hk => (hown.lt k hk).1)
      go_ret
      exact ⟨_, _, rfl, hl', can_ltrim _, by rw [lv_ltrim]; exact HH.out, hf' _ (FreshV.owned hown'), hbf⟩
end Go.Proofs.YtlloghbaggdhnaaDoor
