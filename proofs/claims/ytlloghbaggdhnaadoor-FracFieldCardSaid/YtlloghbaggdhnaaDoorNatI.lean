/- Walks: limbs.by. -/
import Derived.Test.YtlloghbaggdhnaaDoorNatH
set_option linter.unusedVariables false
set_option linter.unusedSimpArgs false
namespace Go.Proofs.YtlloghbaggdhnaaDoor
open Go.RowKit

def RetBy (w : World) (q r : Nat) (e : Ending) (w' : World) : Prop := ∃ v l, e = .returned (.tuple #[v, .int .u32 (r : Nat)]) ∧ Limbs w' v l ∧ Can l ∧ lv l = q ∧ FreshV w.heap.size v ∧ Below w.heap.size w w'

theorem u64_or32 (m b : Nat) (hb : b < 4294967296) (hm : m < 4294967296) : bits .or .u64 ((m : Int) * 4294967296) (b : Int) = ((m * 4294967296 + b : Nat) : Int) := by
  have h := u64_or_nat (m * 4294967296) b (by omega) (by omega)
  rw [or_shift m b 32 (by omega)] at h
  have e : (m : Int) * 4294967296 = ((m * 4294967296 : Nat) : Int) := by rw [Int.natCast_mul]; rfl
  rw [e, h]
theorem by_step (l q : List Nat) (j d rest x N : Nat) (hj : j < l.length) (hx : l.getD j default = x) (hN : N = rest * 4294967296 + x) (h : lv (l.drop (j + 1)) = d * lv q + rest) :
    lv (l.drop j) = d * lv (N / d :: q) + N % d := by
  rw [List.drop_eq_getElem_cons hj, lv_cons, lv_cons, h]
  have e4 : d * (N / d + 4294967296 * lv q) = d * (N / d) + d * (4294967296 * lv q) := Nat.mul_add _ _ _
  have e : l[j] = x := by rw [← hx, List.getD_eq_getElem?_getD, List.getElem?_eq_getElem hj]; rfl
  have e2 := Nat.div_add_mod N d
  have e3 : d * (4294967296 * lv q) = 4294967296 * (d * lv q) := Nat.mul_left_comm _ _ _
  rw [e]
  omega
theorem by_digit (N d rest x : Nat) (hN : N = rest * 4294967296 + x) (hr : rest < d) (hx : x < 4294967296) : N / d < 4294967296 := by
  rw [Nat.div_lt_iff_lt_mul (by omega), hN]
  have := Nat.mul_le_mul_right 4294967296 (show rest + 1 ≤ d by omega)
  rw [Nat.mul_comm 4294967296 d]
  omega

set_option maxRecDepth 100000 in
set_option maxHeartbeats 1000000 in
theorem by_any (l : List Nat) (v : Value) (d : Nat) (w : World) (h1 : Limbs w v l) (hd0 : 0 < d) (hd : d < 4294967296) (hbig : l.length ≤ 274877906944) :
    Calls Tryd.prog 146 #[v, .int .u32 (d : Nat)] w (RetBy w (lv l / d) (lv l % d)) := by
  obtain ⟨a1, p1, rfl, hnc1, hcm1, hcl⟩ := h1.op
  unfold maxLen at hcm1
  obtain ⟨w0, hmk, hw0⟩ := make_full el_limbs w .i64 .i64 l.length (by omega) (by decide)
  have hblk0 := Blk.newA w 148 (madeCells #[Value.int IntKind.u32 0] l.length)
  rw [toList_madeCells_one] at hblk0
  have hbm := (Below.refl w.heap.size w).alloc (Nat.le_refl _) (.cells (madeCells #[Value.int IntKind.u32 0] l.length) 148)
  have hw0' : w0 = w.alloc (.cells (madeCells #[Value.int IntKind.u32 0] l.length) 148) := by rw [hw0]; simp [Value.cells]
  rw [← hw0'] at hblk0 hbm
  clear h1 hw0 hw0'
  go_enter Tryd.func146, Tryd.ntmps146
  go_wp2
  go_loopw [7, 8] (fun r i wr => ∃ (j rest : Nat) (cs : List Value) (q : List Nat), i = .int .i64 ((j : Int) - 1) ∧ j + q.length = l.length ∧ r = .int .u64 rest ∧ rest < d ∧ Blk wr w.heap.size 148 cs ∧ cs.length = l.length ∧ cs.drop j = limbVals q ∧ Lim q ∧ lv (l.drop j) = d * lv q + rest ∧ Below w.heap.size w wr) (fun _ i _ => (intOf i + 1).toNat)
  case atStart => exact ⟨l.length, 0, _, [], rfl, by simp, rfl, hd0, hblk0, by simp, by simp [limbVals], lim_nil, by simp [lv_nil], hbm⟩
  case round =>
    obtain ⟨j, rest, cs, q, rfl, hj, rfl, hrd, hblk, hcs, hdr, hlq, hlv, hbr⟩ := hrel
    clear hmk hblk0 hbm
    by_cases h0 : 0 < j
    · obtain ⟨m, rfl⟩ : ∃ m, j = m + 1 := ⟨j - 1, by omega⟩
      rw [show ((m + 1 : Nat) : Int) - 1 = (m : Int) by omega]
      have hml : m < l.length := by omega
      obtain ⟨⟨b1, o1, rfl, hc1⟩, hx1⟩ := hcl m hml
      have hc1r := (ext_cell hbr _ (by rw [hc1]; simp)).trans hc1
      have hst := fun x N hx hN => by_step l q m d rest x N hml hx hN hlv
      have hdg := fun N x hN hx => by_digit N d rest x hN hrd hx
      have HST := hst _ _ rfl rfl
      generalize l.getD m default = x at *
      have hor := u64_or32 rest x hx1 (by omega)
      have hdig := hdg _ x rfl hx1
      have hmod : (rest * 4294967296 + x) % d < d := Nat.mod_lt _ hd0
      have hNb : rest * 4294967296 + x ≤ 18446744073709551615 := by omega
      generalize rest * 4294967296 + x = N at *
      have hcell : wr.cell? ⟨w.heap.size, m, none⟩ = some (cs[m]'(by omega)) := hblk.cell m _
      have hfr : wr.frozen? ⟨w.heap.size, m, none⟩ = false := hblk.frozen m
      generalize cs[m]'(by omega) = cx at hcell
      have hdi : ((N : Int) / (d : Int)) < 4294967296 := by rw [← Int.natCast_ediv]; omega
      have hdi0 : 0 ≤ ((N : Int) / (d : Int)) := Int.ediv_nonneg (by omega) (by omega)
      have H : Hid (m + 1 + q.length = l.length ∧ Blk wr w.heap.size 148 cs ∧ cs.length = l.length ∧ cs.drop (m + 1) = limbVals q ∧ lv (l.drop m) = d * lv (N / d :: q) + N % d ∧ N / d < 4294967296 ∧ N % d < d) := ⟨hj, hblk, hcs, hdr, HST, hdig, hmod⟩
      clear hj hblk hcs hdr HST hdig hmod hlv hst hdg hcl hc1
      go_wp2
      obtain ⟨hj, hblk, hcs, hdr, hst, hdig, hmod⟩ := H.out
      refine ⟨⟨m, N % d, _, N / d :: q, rfl, by simp; omega, by rw [Int.natCast_emod], hmod, hblk.set _ _, by simpa using hcs, ?_, lim_cons.2 ⟨hdig, hlq⟩, hst, hbr.setCell (Nat.le_refl _) _⟩, by simp [intOf]⟩
      rw [List.drop_eq_getElem_cons (by simp; omega)]
      simp only [List.getElem_set_self, limbVals, List.map_cons]
      rw [List.drop_set_of_lt (by omega), hdr, ← Int.natCast_ediv]; rfl
    · obtain rfl : j = 0 := by omega
      rw [List.drop_zero] at hdr hlv
      have H : Hid (lv l = d * lv q + rest) := hlv
      have hL : Limbs wr (.slice (some ⟨w.heap.size, 0, none⟩) l.length l.length) q := by
        refine ⟨⟨l.length, l.length, by unfold maxLen; omega, Nat.le_refl _, by unfold maxLen; omega, by rw [← hdr, hcs]; omega, .inr ⟨_, 0, rfl, fun i hi => ?_⟩⟩, hlq⟩
        rw [Nat.zero_add, hblk.cell? i, hdr, List.getElem?_eq_getElem hi]
      clear hcl hlv hblk hcs hdr hj
      go_wp2_with (go_at_call 170; refine (ltrim_any _ _ _ hL).mono ?_; rintro e w' ⟨v', rfl, hl', hf', rfl⟩)
      go_ret2
      have e1 : lv l / d = lv q := by rw [H.out, Nat.mul_add_div hd0, Nat.div_eq_of_lt hrd]; rfl
      have e2 : lv l % d = rest := by rw [H.out, Nat.mul_add_mod, Nat.mod_eq_of_lt hrd]
      exact ⟨_, _, by rw [e2]; rfl, hl', can_ltrim _, by rw [lv_ltrim, e1], hf' _ (FreshV.at (Nat.le_refl _)), hbr⟩
end Go.Proofs.YtlloghbaggdhnaaDoor
