/- Walks: nat.long. -/
import Derived.Test.YtlloghbaggdhnaaDoorNatI
import Derived.Test.YtlloghbaggdhnaaDoorLimbQ
import Derived.BigRegion
import Derived.Laws.ShiftsVar
set_option linter.unusedVariables false
set_option linter.unusedSimpArgs false
namespace Go.Proofs.YtlloghbaggdhnaaDoor
open Go.RowKit

def RetLong (w : World) (q r : Nat) (e : Ending) (w' : World) : Prop := ∃ v l v2 l2, e = .returned (.tuple #[v, v2]) ∧ Limbs w' v l ∧ Can l ∧ lv l = q ∧ Limbs w' v2 l2 ∧ Can l2 ∧ lv l2 = r ∧ Below w.heap.size w w'

theorem u32_and1 (y : Nat) (hy : y < 4294967296) : bits .and .u32 (y : Int) 1 = ((y % 2 : Nat) : Int) := by
  have h := u32_and_nat y 1 hy (by omega)
  rw [Nat.and_one_is_mod] at h
  exact h
theorem or_bit32 (y b : Nat) (hb : b < 32) (hy : y < 4294967296) (h : y ||| 2 ^ b = y + 2 ^ b) : bits .or .u32 (y : Int) (2 ^ b % 4294967296) = ((y + 2 ^ b : Nat) : Int) := by
  have hp : 2 ^ b < 4294967296 := by
    have : 2 ^ b ≤ 2 ^ 31 := Nat.pow_le_pow_right (by omega) (by omega)
    omega
  have h2 := u32_or_nat y (2 ^ b) hy hp
  rw [h] at h2
  have e : (2 : Int) ^ b % 4294967296 = ((2 ^ b : Nat) : Int) := by
    have h3 : (2 : Int) ^ b = ((2 ^ b : Nat) : Int) := by rw [Int.natCast_pow]; rfl
    rw [h3]
    generalize 2 ^ b = z at hp
    omega
  rw [e, h2]
theorem shr_and1 (x b : Nat) (hx : x < 4294967296) : bits .and .u32 ((x : Int) / 2 ^ b) 1 = ((x / 2 ^ b % 2 : Nat) : Int) := by
  have e : (x : Int) / 2 ^ b = ((x / 2 ^ b : Nat) : Int) := by rw [Int.natCast_ediv, Int.natCast_pow]; rfl
  rw [e, u32_and1 _ (Nat.lt_of_le_of_lt (Nat.div_le_self _ _) hx)]

set_option maxRecDepth 100000 in
set_option maxHeartbeats 2000000 in
theorem long_any (l m : List Nat) (v1 v2 : Value) (w : World) (h1 : Limbs w v1 l) (h2 : Limbs w v2 m) (hcm : Can m) (hm0 : 0 < lv m) (hbig : l.length ≤ 274877906944) (hbm : m.length < 274877906944) :
    Calls Tryd.prog 173 #[v1, v2] w (RetLong w (lv l / lv m) (lv l % lv m)) := by
  have hlim0 := h1.2
  obtain ⟨a1, p1, rfl, hnc1, hcm1, hcl⟩ := h1.op
  unfold maxLen at hcm1
  obtain ⟨w0, hmk, hw0⟩ := make_full el_limbs w .i64 .i64 l.length (by omega) (by decide)
  have hblk0 := Blk.newA w 148 (madeCells #[Value.int IntKind.u32 0] l.length)
  rw [toList_madeCells_one] at hblk0
  have hbm0 := (Below.refl w.heap.size w).alloc (Nat.le_refl _) (.cells (madeCells #[Value.int IntKind.u32 0] l.length) 148)
  have hw0' : w0 = w.alloc (.cells (madeCells #[Value.int IntKind.u32 0] l.length) 148) := by rw [hw0]; simp [Value.cells]
  rw [← hw0'] at hblk0 hbm0
  have hrep : List.replicate l.length (Value.int .u32 0) = limbVals (List.replicate l.length 0) := by simp [limbVals]
  rw [hrep] at hblk0
  clear h1 hw0 hw0' hrep
  go_enter Tryd.func173, Tryd.ntmps173
  go_wp2
  go_loopw [5, 6] (fun r i wr => ∃ (t Q : Nat) (ql rl : List Nat), i = .int .i64 ((t : Int) - 1) ∧ t ≤ 32 * l.length ∧ Blk wr w.heap.size 148 (limbVals ql) ∧ ql.length = l.length ∧ Lim ql ∧ Limbs wr r rl ∧ Can rl ∧ lv rl < lv m ∧ lv l / 2 ^ t = lv m * Q + lv rl ∧ lv ql = Q * 2 ^ t ∧ Below w.heap.size w wr) (fun _ i _ => (intOf i + 1).toNat)
  case atStart => exact ⟨32 * l.length, 0, _, [], by go_num, Nat.le_refl _, hblk0, by simp, fun x hx => by rw [List.eq_of_mem_replicate hx]; omega, ⟨SliceAt.nil _ _, lim_nil⟩, can_nil, by simpa [lv_nil] using hm0, by rw [long_top l hlim0]; simp [lv_nil], by rw [lv_zeros]; simp, hbm0⟩
  case round =>
    obtain ⟨t, Q, ql, rl, rfl, ht, hblk, hql, hlq, hrl, hcr, hrm, hdiv, hlq2, hbr⟩ := hrel
    clear hmk hblk0 hbm0
    by_cases h0 : 0 < t
    · obtain ⟨s, rfl⟩ : ∃ s, t = s + 1 := ⟨t - 1, by omega⟩
      rw [show ((s + 1 : Nat) : Int) - 1 = (s : Int) by omega]
      obtain ⟨k, b, hk, hb, hs, hsd, hsm⟩ : ∃ k b : Nat, k < l.length ∧ b < 32 ∧ s = 32 * k + b ∧ (s : Int) / 32 = (k : Int) ∧ (s : Int) % 32 = (b : Int) := ⟨s / 32, s % 32, by omega, by omega, by omega, by omega, by omega⟩
      obtain ⟨⟨b1, o1, rfl, hc1⟩, hx1⟩ := hcl k hk
      have hc1r := (ext_cell hbr _ (by rw [hc1]; simp)).trans hc1
      generalize hxx : l.getD k default = x at *
      have H : Hid (s = 32 * k + b ∧ l.getD k default = x ∧ Blk wr w.heap.size 148 (limbVals ql) ∧ ql.length = l.length ∧ Limbs wr u5 rl ∧ Can rl ∧ lv rl < lv m ∧ lv l / 2 ^ (s + 1) = lv m * Q + lv rl ∧ lv ql = Q * 2 ^ (s + 1)) := ⟨hs, hxx, hblk, hql, hrl, hcr, hrm, hdiv, hlq2⟩
      clear hs hxx hblk hql hrl hcr hrm hdiv hlq2 hcl hc1
      have hand := shr_and1 x b hx1
      have hbit : x / 2 ^ b % 2 ≤ 1 := by omega
      generalize hbb : x / 2 ^ b % 2 = bit at *
      have HB := Lib.hid hbb; clear hbb
      go_wp2_with (fail)
      obtain ⟨hs, hxx, hblk, hql, hrl, hcr, hrm, hdiv, hlq2⟩ := H.out
      have hrlen : rl.length ≤ m.length := can_length_le hcr (Nat.lt_trans hrm (lv_lt h2.2))
      clear hs hxx hql hdiv hlq2
      refine (twice_any rl _ bit wr hrl hbit (by omega)).mono ?_
      rintro e w1 ⟨vr, r1, rfl, hr1, hcr1, hv1, hfr1, hb1⟩
      have h2w := h2.ext (hbr.mono (Nat.le_refl _))
      have h2w1 := h2w.ext hb1
      have hless := less_any r1 m vr v2 w1 hr1 h2w1 hcr1 hcm
      have hblk1 := hblk.ext hb1
      have hltB : w.heap.size < w1.heap.size := hblk1.lt
      have hbr1 := hbr.trans (hb1.mono hbr.size)
      clear hblk hbr hrl hcr
      by_cases hlt : lv r1 < lv m
      · rw [decide_eq_true hlt] at hless
        have HL := Lib.hid hlt
        have H1 := Lib.hid hv1
        clear hlt hrm hv1
        go_wp2_with (fail)
        refine hless.mono ?_
        rintro e w2 ⟨rfl, hb2⟩
        go_wp2_with (fail)
        obtain ⟨hs, hxx, hblk, hql, hrl, hcr, hrm, hdiv, hlq2⟩ := H.out
        have hlb := long_bit l s k b x hs hb hk hlim0 hxx
        rw [hdiv, HB.out] at hlb
        refine ⟨⟨s, 2 * Q, ql, r1, rfl, by omega, hblk1.ext hb2, hql, hlq, hr1.ext hb2, hcr1, HL.out, ?_, ?_, hbr1.trans (hb2.mono hbr1.size)⟩, by simp [intOf]⟩
        · rw [hlb, H1.out, Nat.mul_add, ← Nat.mul_assoc, Nat.mul_comm 2 (lv m), Nat.mul_assoc]; omega
        · rw [hlq2, Nat.pow_succ, Nat.mul_comm (2 ^ s) 2, ← Nat.mul_assoc, Nat.mul_comm Q 2]
      · rw [decide_eq_false hlt] at hless
        have hlen : m.length ≤ r1.length := by
          rcases Nat.lt_or_ge r1.length m.length with h | h
          · exact absurd (can_length_lt hr1.2 hcm h) hlt
          · exact h
        have hr1len : r1.length ≤ m.length + 1 := by
          refine can_length_le hcr1 ?_
          have := lv_lt h2.2
          rw [hv1, Nat.pow_succ]; omega
        have hmin := fun w2 h1 h2 => minus_any r1 m vr v2 w2 h1 h2 (by omega) hlen (by omega)
        have HL : Hid (¬ lv r1 < lv m ∧ lv rl < lv m ∧ lv r1 = 2 * lv rl + bit) := ⟨hlt, hrm, hv1⟩
        have HM := Lib.hid hmin
        clear hlt hrm hv1 hmin hlen hr1len
        go_wp2_with (fail)
        refine hless.mono ?_
        rintro e w2 ⟨rfl, hb2⟩
        go_wp2_with (fail)
        refine (HM.out w2 (hr1.ext hb2) (h2w1.ext hb2)).mono ?_
        rintro e w3 ⟨vq, r2, rfl, hr2, hcr2, hv2, hfr2, hb3⟩
        have hblk3 := (hblk1.ext hb2).ext hb3
        have hbr3 := (hbr1.trans (hb2.mono hbr1.size)).trans (hb3.mono (Nat.le_trans hbr1.size hb2.size))
        obtain ⟨hs, hxx, hblk, hql, hrl, hcr, hrm, hdiv, hlq2⟩ := H.out
        have hlb := long_bit l s k b x hs hb hk hlim0 hxx
        have hkq : k < ql.length := by omega
        have hqq := lim_get hlq k default hkq
        obtain ⟨hor, hlt2, hset⟩ := set_bit ql Q s k b _ hs hb hkq hlq rfl hlq2
        have hcell := hblk3.cell k (by simpa [limbVals] using hkq)
        rw [show (limbVals ql)[k]'(by simpa [limbVals] using hkq) = Value.int .u32 ((ql.getD k default : Nat) : Int) by simp [limbVals, List.getD_eq_getElem?_getD, List.getElem?_eq_getElem hkq]] at hcell
        have hfr := hblk3.frozen k
        generalize hyy : ql.getD k default = y at *
        have H3 : Hid (y ||| 2 ^ b = y + 2 ^ b ∧ y + 2 ^ b < 4294967296 ∧ lv (ql.set k (y + 2 ^ b)) = (2 * Q + 1) * 2 ^ s ∧ lv l / 2 ^ s = 2 * (lv l / 2 ^ (s + 1)) + x / 2 ^ b % 2 ∧ Blk w3 w.heap.size 148 (limbVals ql) ∧ lv r2 = lv r1 - lv m) := ⟨hor, hlt2, hset, hlb, hblk3, hv2⟩
        clear hs hxx hblk hql hrl hcr hrm hdiv hlq2 hlb hor hlt2 hset hyy hblk3 hblk1 hless hr1 h2w h2w1 hv2
        go_wp2
        go_region
        go_wp2
        obtain ⟨hs, hxx, hblk, hql, hrl, hcr, hrm, hdiv, hlq2⟩ := H.out
        obtain ⟨hor, hlt2, hset, hlb, hblk3, hv2⟩ := H3.out
        obtain ⟨hnl, hrl2, hv1⟩ := HL.out
        rw [hdiv, HB.out] at hlb
        have hval := or_bit32 y b hb hqq hor
        refine ⟨⟨s, 2 * Q + 1, ql.set k (y + 2 ^ b), r2, rfl, by omega, ?_, by simpa using hql, lim_set hlq k _ hlt2, ?_, hcr2, by omega, ?_, hset, (hbr3.setCell (Nat.le_refl _) _).drew⟩, by simp [intOf]⟩
        · have := hblk3.set k (Value.int .u32 ((y + 2 ^ b : Nat) : Int))
          rw [hval]
          rw [show limbVals (ql.set k (y + 2 ^ b)) = (limbVals ql).set k (Value.int .u32 ((y + 2 ^ b : Nat) : Int)) by simp [limbVals, List.map_set]]
          exact this
        · exact ⟨hr2.1.setOther (a := ⟨w.heap.size, k, none⟩) hfr2 (Nat.lt_of_lt_of_le hltB hb2.size) _, hr2.2⟩
        · rw [hlb, hv2, hv1, Nat.mul_add, Nat.mul_add, Nat.mul_left_comm]; omega
    · obtain rfl : t = 0 := by omega
      rw [Nat.pow_zero, Nat.div_one] at hdiv
      rw [Nat.pow_zero, Nat.mul_one] at hlq2
      have e1 : lv l / lv m = lv ql := by rw [hdiv, hlq2, Nat.mul_add_div hm0, Nat.div_eq_of_lt hrm]; rfl
      have e2 : lv l % lv m = lv rl := by rw [hdiv, Nat.mul_add_mod, Nat.mod_eq_of_lt hrm]
      have hL : Limbs wr (.slice (some ⟨w.heap.size, 0, none⟩) l.length l.length) ql := by
        refine ⟨⟨l.length, l.length, by unfold maxLen; omega, Nat.le_refl _, by unfold maxLen; omega, by simpa [limbVals] using hql, .inr ⟨_, 0, rfl, fun i hi => ?_⟩⟩, hlq⟩
        rw [Nat.zero_add]; exact hblk.cell i hi
      have H : Hid (lv l / lv m = lv ql ∧ lv l % lv m = lv rl ∧ Limbs wr u5 rl ∧ Can rl) := ⟨e1, e2, hrl, hcr⟩
      clear hcl hblk hql hrm hdiv hlq2 e1 e2 hrl hcr
      go_wp2_with (go_at_call 170; refine (ltrim_any _ _ _ hL).mono ?_; rintro e w' ⟨v', rfl, hl', hf', rfl⟩)
      go_ret2
      obtain ⟨e1, e2, hrl, hcr⟩ := H.out
      exact ⟨_, _, _, _, rfl, hl', can_ltrim _, by rw [lv_ltrim, e1], hrl, hcr, e2.symm, hbr⟩
end Go.Proofs.YtlloghbaggdhnaaDoor
