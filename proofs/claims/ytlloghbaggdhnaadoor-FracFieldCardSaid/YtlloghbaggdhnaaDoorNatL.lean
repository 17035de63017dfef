/- Walks: nat.Mul. -/
import Derived.Test.YtlloghbaggdhnaaDoorNatK
set_option linter.unusedVariables false
set_option linter.unusedSimpArgs false
namespace Go.Proofs.YtlloghbaggdhnaaDoor
open Go.RowKit

set_option maxRecDepth 100000 in
set_option maxHeartbeats 4000000 in
theorem mul_any (s t : ByteArray) (w : World) (hs : s.size ≤ 137438953472) (ht : t.size ≤ 137438953472) :
    Calls Tryd.prog 69 #[.string s, .string t] w (RetNat w (vn s * vn t)) := by
  have hvs := vn_lt s
  have hvt := vn_lt t
  go_enter Tryd.func69, Tryd.ntmps69
  go_wp2_with fail
  refine (split_any s w (by omega)).mono ?_
  rintro e w1 ⟨v1, l, rfl, hl, hcl, hvl, _, hb1⟩
  go_wp2_with fail
  refine (split_any t w1 (by omega)).mono ?_
  rintro e w2 ⟨v2, m, rfl, hm, hcm, hvm, _, hb2⟩
  have hl2 := hl.ext hb2
  have hll := limbs_le hcl hvl hvs
  have hml := limbs_le hcm hvm hvt
  have H : Hid (lv l = vn s ∧ lv m = vn t ∧ Lim l ∧ Lim m) := ⟨hvl, hvm, hl.2, hm.2⟩
  have hb : Below w.heap.size w w2 := hb1.trans (hb2.mono hb1.size)
  clear hl hcl hvl hcm hvm hvs hvt hb1 hb2
  obtain ⟨a1, p1, rfl, hnc1, hcm1, hcl⟩ := hl2.op
  obtain ⟨a2, p2, rfl, hnc2, hcm2, hcm⟩ := hm.op
  clear hl2 hm
  unfold maxLen at hcm1 hcm2
  obtain ⟨w0, hmk, hw0⟩ := make_full el_limbs w2 .i64 .i64 (l.length + m.length) (by omega) (by decide)
  rw [show ((l.length + m.length : Nat) : Int) = (l.length : Int) + (m.length : Int) by omega] at hmk
  have hblk0 := Blk.newA w2 148 (madeCells #[Value.int IntKind.u32 0] (l.length + m.length))
  rw [toList_madeCells_one] at hblk0
  have hbm := (Below.refl w2.heap.size w2).alloc (Nat.le_refl _) (.cells (madeCells #[Value.int IntKind.u32 0] (l.length + m.length)) 148)
  have hw0' : w0 = w2.alloc (.cells (madeCells #[Value.int IntKind.u32 0] (l.length + m.length)) 148) := by rw [hw0]; simp [Value.cells]
  rw [← hw0'] at hblk0 hbm
  have hrep : List.replicate (l.length + m.length) (Value.int .u32 0) = limbVals (List.replicate (l.length + m.length) 0) := by simp [limbVals]
  rw [hrep] at hblk0
  clear hw0 hw0' hrep
  go_wp2
  go_loopw [25] (fun q wr => ∃ (i : Nat) (os : List Nat), q = .int .i64 i ∧ i ≤ l.length ∧ Blk wr w2.heap.size 148 (limbVals os) ∧ os.length = l.length + m.length ∧ Lim os ∧ lv os = lv (l.take i) * lv m ∧ Below w2.heap.size w2 wr) (fun q _ => l.length - (intOf q).toNat)
  case atStart => exact ⟨0, _, rfl, Nat.zero_le _, hblk0, by simp, fun x hx => by rw [List.eq_of_mem_replicate hx]; omega, by rw [lv_zeros]; simp [lv_nil], hbm⟩
  case round =>
    obtain ⟨i, os0, rfl, hi, hblk, hos, hlo, hlv, hbr⟩ := hrel
    clear hmk hblk0 hbm
    obtain ⟨wo, rfl⟩ : ∃ wo : World, wo = wr := ⟨_, rfl⟩
    by_cases hlt : i < l.length
    · obtain ⟨⟨b1, o1, rfl, hc1⟩, hx1⟩ := hcl i hlt
      have hc1r := (ext_cell hbr _ (by rw [hc1]; simp)).trans hc1
      have HO : Hid (lv os0 = lv (l.take i) * lv m ∧ Lim os0 ∧ os0.length = l.length + m.length ∧ Blk wo w2.heap.size 148 (limbVals os0)) := ⟨hlv, hlo, hos, hblk⟩
      generalize hxx : l.getD i default = x at *
      have HX := Lib.hid hxx
      clear hlv hlo hos hblk hxx hcl hc1
      go_wp2
      go_loopw [10, 32] (fun c q wr => ∃ (k cc : Nat) (os : List Nat), q = .int .i64 k ∧ k ≤ m.length ∧ c = .int .u64 cc ∧ cc < 4294967296 ∧ Blk wr w2.heap.size 148 (limbVals os) ∧ os.length = l.length + m.length ∧ Lim os ∧ os.drop (i + k) = os0.drop (i + k) ∧ lv os + 4294967296 ^ (i + k) * cc = lv os0 + 4294967296 ^ i * (x * lv (m.take k)) ∧ Below w2.heap.size w2 wr) (fun _ q _ => m.length - (intOf q).toNat)
      case atStart => exact ⟨0, 0, os0, rfl, Nat.zero_le _, rfl, by omega, HO.out.2.2.2, HO.out.2.2.1, HO.out.2.1, rfl, by simp [lv_nil], hbr⟩
      case round =>
        obtain ⟨k, cc, os, rfl, hk, rfl, hcc, hblk, hos, hlo, hdr, hlv, hb2r⟩ := hrel
        by_cases hkm : k < m.length
        · obtain ⟨⟨b2, o2, rfl, hc2⟩, hx2⟩ := hcm k hkm
          have hc2r := (ext_cell hb2r _ (by rw [hc2]; simp)).trans hc2
          have hik : i + k < os.length := by omega
          have hcell := hblk.cell (i + k) (by simpa [limbVals] using hik)
          rw [show (limbVals os)[i + k]'(by simpa [limbVals] using hik) = Value.int .u32 ((os.getD (i + k) default : Nat) : Int) by simp [limbVals, List.getD_eq_getElem?_getD, List.getElem?_eq_getElem hik]] at hcell
          have hfr := hblk.frozen (i + k)
          have ho3 := lim_get hlo (i + k) default hik
          have hst := fun y o t hy ho ht => mul_step os os0 m i k cc x y o t hkm hy hik ho ht hlv
          have hst2 := hst _ _ _ rfl rfl rfl
          generalize m.getD k default = y at *
          generalize os.getD (i + k) default = o at *
          have hbd := mul_bound cc x y o hcc hx1 hx2 ho3
          have hxy : (x : Int) * (y : Int) = ((x * y : Nat) : Int) := by rw [Int.natCast_mul]
          generalize x * y = pxy at *
          have HH : Hid (lv (os.set (i + k) ((cc + (pxy + o)) % 4294967296)) + 4294967296 ^ (i + (k + 1)) * ((cc + (pxy + o)) / 4294967296) = lv os0 + 4294967296 ^ i * (x * lv (m.take (k + 1))) ∧ Blk wr w2.heap.size 148 (limbVals os) ∧ os.length = l.length + m.length ∧ os.drop (i + k) = os0.drop (i + k)) := ⟨hst2, hblk, hos, hdr⟩
          clear hst hst2 hblk hos hdr hlv hc2 hcm
          go_wp2
          obtain ⟨hst, hblk, hos, hdr⟩ := HH.out
          refine ⟨⟨k + 1, (cc + (pxy + o)) / 4294967296, os.set (i + k) ((cc + (pxy + o)) % 4294967296), by go_num, by omega, by go_num, by omega, ?_, by simpa using hos, lim_set hlo _ _ (by omega), ?_, hst, hb2r.setCell (Nat.le_refl _) _⟩, by simp [intOf]; omega⟩
          · have := hblk.set (i + k) (Value.int .u32 (((cc + (pxy + o)) % 4294967296 : Nat) : Int))
            rw [show limbVals (os.set (i + k) ((cc + (pxy + o)) % 4294967296)) = (limbVals os).set (i + k) (Value.int .u32 (((cc + (pxy + o)) % 4294967296 : Nat) : Int)) by simp [limbVals, List.map_set]]
            rw [show (((cc + (pxy + o)) % 4294967296 : Nat) : Int) = ((cc : Int) + ((pxy : Int) + (o : Int))) % 4294967296 by omega] at this ⊢
            exact this
          · rw [List.drop_set_of_lt (by omega), ← Nat.add_assoc]
            have := congrArg (List.drop 1) hdr
            rw [List.drop_drop, List.drop_drop] at this
            exact this
        · obtain rfl : k = m.length := by omega
          have hlen0 := HO.out.2.2.1
          have hfin := mul_row os os0 l m i cc x hlt HX.out hlen0 (by omega) HO.out.1 H.out.2.2.1 H.out.2.2.2 hdr hlv
          have hik : i + m.length < os.length := by omega
          have hcell := hblk.cell (i + m.length) (by simpa [limbVals] using hik)
          generalize (limbVals os)[i + m.length]'(by simpa [limbVals] using hik) = cx at hcell
          have hfr := hblk.frozen (i + m.length)
          have HH : Hid (lv (os.set (i + m.length) cc) = lv (l.take (i + 1)) * lv m ∧ Blk wr w2.heap.size 148 (limbVals os) ∧ os.length = l.length + m.length) := ⟨hfin, hblk, hos⟩
          clear hfin hblk hos hdr hlv hcm hlen0
          go_wp2
          obtain ⟨hfin, hblk, hos⟩ := HH.out
          refine ⟨⟨i + 1, os.set (i + m.length) cc, by go_num, by omega, ?_, by simpa using hos, lim_set hlo _ _ hcc, hfin, hb2r.setCell (Nat.le_refl _) _⟩, by simp [intOf]; omega⟩
          have := hblk.set (i + m.length) (Value.int .u32 (cc : Int))
          rw [show limbVals (os.set (i + m.length) cc) = (limbVals os).set (i + m.length) (Value.int .u32 (cc : Int)) by simp [limbVals, List.map_set]]
          exact this
    · obtain rfl : i = l.length := by omega
      rw [List.take_of_length_le (Nat.le_refl _), H.out.1, H.out.2.1] at hlv
      have hL : Limbs wo (.slice (some ⟨w2.heap.size, 0, none⟩) (l.length + m.length) (l.length + m.length)) os0 := by
        refine ⟨⟨l.length + m.length, l.length + m.length, by unfold maxLen; omega, Nat.le_refl _, by unfold maxLen; omega, by simpa [limbVals] using hos, .inr ⟨_, 0, rfl, fun j hj => ?_⟩⟩, hlo⟩
        rw [Nat.zero_add]; exact hblk.cell j hj
      have HL := lnat_any os0 _ wo hL (by omega)
      rw [hlv] at HL
      have HH := Lib.hid HL
      clear HL hlv hblk hos hcl hcm hL
      go_wp2_with (go_at_call 132; refine HH.out.mono ?_; rintro e w' ⟨rfl, hb3⟩)
      go_ret
      exact ⟨rfl, (hb.trans (hbr.mono hb.size)).trans (hb3.mono (Nat.le_trans hb.size hbr.size))⟩
end Go.Proofs.YtlloghbaggdhnaaDoor
