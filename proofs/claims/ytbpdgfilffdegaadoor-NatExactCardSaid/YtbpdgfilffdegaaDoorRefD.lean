/- Walks: augurref.NatSub. -/
import Derived.Test.YtbpdgfilffdegaaDoorRefC
set_option linter.unusedVariables false
set_option linter.unusedSimpArgs false
namespace Go.Proofs.YtbpdgfilffdegaaDoor
open Go.RowKit
open Go.IntWalk (wrap64_in)

theorem rsub_step (A B i br br' e : Nat) (ds : List Nat) (hl : ds.length = i) (h : lo8 ds + B % 256 ^ i = A % 256 ^ i + 256 ^ i * br) (x y : Nat) (hx : A / 256 ^ i % 256 = x) (hy : B / 256 ^ i % 256 = y) (he : e + y + br = x + 256 * br') :
    lo8 (ds ++ [e]) + B % 256 ^ (i + 1) = A % 256 ^ (i + 1) + 256 ^ (i + 1) * br' := by
  rw [mod_step A, mod_step B, lo8_snoc, hl, Nat.pow_succ, hx, hy]
  have e1 : 256 ^ i * (e + y + br) = 256 ^ i * (x + 256 * br') := by rw [he]
  have e2 : 256 ^ i * (x + 256 * br') = 256 ^ i * x + 256 ^ i * 256 * br' := by rw [Nat.mul_add, Nat.mul_assoc]
  rw [Nat.mul_add, Nat.mul_add, e2] at e1
  omega

set_option maxHeartbeats 1000000 in
theorem rsub_no (a b : ByteArray) (w : World) (ha : a.size ≤ 274877906944) (hb : b.size ≤ 274877906944) (h : vn a < vn b) :
    Calls Tryd.prog 54 #[.string a, .string b] w (RetNatB w 0 false) := by
  have hc := rcmp_any a b w ha hb
  rw [cmp_lt h] at hc
  have HC := Lib.hid hc; clear hc
  go_enter Tryd.func54, Tryd.ntmps54
  go_wp2_with fail
  refine HC.out.mono ?_; rintro e w1 ⟨rfl, hb1⟩
  go_wp2_with fail
  go_ret2
  exact ⟨by rw [ns_zero]; rfl, hb1⟩

set_option maxRecDepth 100000 in
set_option maxHeartbeats 2000000 in
theorem rsub_in (a T : ByteArray) (b : ByteArray) (w : World) (ha : a.size ≤ 274877906944) (hb : b.size ≤ 274877906944) (hTs : T.size ≤ 274877906944) (h : vn T ≤ vn a)
    (hcmp : ∃ c : Int, 0 ≤ c ∧ Calls Tryd.prog 49 #[.string a, .string b] w fun e w' => e = .returned (.int .i64 c) ∧ Below w.heap.size w w')
    (hT : ∀ w, Calls Tryd.prog 47 #[.string b] w fun e w' => e = .returned (.string T) ∧ w = w') :
    Calls Tryd.prog 54 #[.string a, .string b] w (RetNatB w (vn a - vn T) true) := by
  obtain ⟨c, hc0, hc⟩ := hcmp
  have HC := Lib.hid hc
  have HT := Lib.hid hT
  clear hc hT
  have HD1 := fun i h w => digit_any a i w (by unfold maxLen; omega) h
  have HD2 := fun i h w => digit_any T i w (by unfold maxLen; omega) h
  have D1 := Lib.hid HD1
  have D2 := Lib.hid HD2
  clear HD1 HD2
  have HB : Hid (vn a < 256 ^ a.size ∧ vn T ≤ vn a) := ⟨vn_lt a, h⟩
  clear h
  go_enter Tryd.func54, Tryd.ntmps54
  go_wp2_with fail
  refine HC.out.mono ?_; rintro e w1 ⟨rfl, hb1⟩
  go_wp2_with fail
  refine (HT.out _).mono ?_; rintro e w' ⟨rfl, rfl⟩
  obtain ⟨w0, hmk, hw0⟩ := make_full el_ints w1 .i64 .i64 a.size (by omega) (by decide)
  have hblk0 := Blk.newA w1 3 (madeCells #[Value.int IntKind.i64 0] a.size)
  rw [toList_madeCells_one] at hblk0
  have hbm := (Below.refl w1.heap.size w1).alloc (Nat.le_refl _) (.cells (madeCells #[Value.int IntKind.i64 0] a.size) 3)
  have hw0' : w0 = w1.alloc (.cells (madeCells #[Value.int IntKind.i64 0] a.size) 3) := by rw [hw0]; simp [Value.cells]
  rw [← hw0'] at hblk0 hbm
  clear hw0 hw0'
  go_wp2_with fail
  go_loopw [8, 9] (fun c q wr => ∃ (k br : Nat) (cs : List Value) (ds : List Nat), q = .int .i64 k ∧ k ≤ a.size ∧ c = .int .i64 br ∧ br ≤ 1 ∧ Blk wr w1.heap.size 3 cs ∧ cs.length = a.size ∧ cs.take k = intVals ds ∧ ds.length = k ∧ (∀ d ∈ ds, d < 256) ∧ lo8 ds + vn T % 256 ^ k = vn a % 256 ^ k + 256 ^ k * br ∧ Below w1.heap.size w1 wr) (fun _ q _ => a.size - (intOf q).toNat)
  case atStart => exact ⟨0, 0, _, [], rfl, Nat.zero_le _, rfl, by omega, hblk0, by simp, by simp [intVals], rfl, by simp, by simp [lo8, Nat.mod_one], hbm⟩
  case round =>
    obtain ⟨k, br, cs, ds, rfl, hk, rfl, hbr1, hblk, hcs, htk, hdl, hds, hlo, hbr⟩ := hrel
    clear hmk hblk0 hbm
    by_cases h0 : k < a.size
    · have d1 := D1.out k (by omega)
      have d2 := D2.out k (by omega)
      have hst := rsub_step (vn a) (vn T) k br
      have hx : vn a / 256 ^ k % 256 < 256 := Nat.mod_lt _ (by omega)
      have hy : vn T / 256 ^ k % 256 < 256 := Nat.mod_lt _ (by omega)
      have hst := fun br' e => hst br' e ds hdl hlo _ _ rfl rfl
      generalize vn a / 256 ^ k % 256 = x at *
      generalize vn T / 256 ^ k % 256 = y at *
      have hcell : wr.cell? ⟨w1.heap.size, k, none⟩ = some (cs[k]'(by omega)) := hblk.cell _ _
      have hfr : wr.frozen? ⟨w1.heap.size, k, none⟩ = false := hblk.frozen _
      generalize cs[k]'(by omega) = cx at hcell
      have H : Hid (Blk wr w1.heap.size 3 cs ∧ cs.length = a.size ∧ cs.take k = intVals ds ∧ ds.length = k ∧ (∀ d ∈ ds, d < 256) ∧ (∀ (br' e : Nat), e + y + br = x + 256 * br' → lo8 (ds ++ [e]) + vn T % 256 ^ (k + 1) = vn a % 256 ^ (k + 1) + 256 ^ (k + 1) * br')) := ⟨hblk, hcs, htk, hdl, hds, hst⟩
      have G1 := Lib.hid d1
      have G2 := Lib.hid d2
      clear hblk hcs htk hdl hds hst hlo d1 d2
      by_cases hneg : (x : Int) - y - br < 0
      · go_wp2_with fail
        refine (G1.out _).mono ?_; rintro e w' ⟨rfl, rfl⟩
        go_wp2_with fail
        refine (G2.out _).mono ?_; rintro e w' ⟨rfl, rfl⟩
        go_wp2_with fail
        obtain ⟨hblk, hcs, htk, hdl, hds, hst⟩ := H.out
        refine ⟨⟨k + 1, 1, _, ds ++ [x + 256 - y - br], rfl, by omega, rfl, by omega, hblk.set _ _, by simpa using hcs, take_set_snoc (by omega) htk hdl _ _ (int_val (by omega)), by simp [hdl], ?_, hst 1 _ (by omega), hbr.setCell (Nat.le_refl _) _⟩, by simp [intOf]; omega⟩
        intro d hd
        rcases List.mem_append.1 hd with hd | hd
        · exact hds d hd
        · have := List.mem_singleton.1 hd; omega
      · go_wp2_with fail
        refine (G1.out _).mono ?_; rintro e w' ⟨rfl, rfl⟩
        go_wp2_with fail
        refine (G2.out _).mono ?_; rintro e w' ⟨rfl, rfl⟩
        go_wp2_with fail
        obtain ⟨hblk, hcs, htk, hdl, hds, hst⟩ := H.out
        refine ⟨⟨k + 1, 0, _, ds ++ [x - y - br], rfl, by omega, rfl, by omega, hblk.set _ _, by simpa using hcs, take_set_snoc (by omega) htk hdl _ _ (int_val (by omega)), by simp [hdl], ?_, hst 0 _ (by omega), hbr.setCell (Nat.le_refl _) _⟩, by simp [intOf]; omega⟩
        intro d hd
        rcases List.mem_append.1 hd with hd | hd
        · exact hds d hd
        · have := List.mem_singleton.1 hd; omega
    · obtain rfl : k = a.size := by omega
      obtain ⟨hA, hB⟩ := HB.out
      rw [Nat.mod_eq_of_lt (a := vn a) (by omega), Nat.mod_eq_of_lt (a := vn T) (by omega)] at hlo
      have hl := lo8_lt ds hds
      rw [hdl] at hl
      have hcc0 : br = 0 := by
        rcases Nat.eq_zero_or_pos br with h | h
        · exact h
        · obtain rfl : br = 1 := by omega
          omega
      subst hcc0
      have hcse : cs = intVals ds := by rw [← htk, List.take_of_length_le (by omega)]
      have hP := pack_any ds _ wr (hcse ▸ SliceAt.blk hblk hcs (by unfold maxLen; omega)) hds (by omega)
      rw [show lo8 ds = vn a - vn T by omega] at hP
      have HP := Lib.hid hP
      clear hblk hcs htk hdl hds hlo hP hA hB hcse hl
      go_wp2_with fail
      refine HP.out.mono ?_; rintro e w' ⟨rfl, hb'⟩
      go_wp2_with fail
      go_ret2
      exact ⟨rfl, hb1.trans ((hbr.trans (hb'.mono hbr.size)).mono hb1.size)⟩

theorem rsub_yes (a b : ByteArray) (w : World) (ha : a.size ≤ 274877906944) (hb : b.size ≤ 274877906944) (h : vn b ≤ vn a) :
    Calls Tryd.prog 54 #[.string a, .string b] w (RetNatB w (vn a - vn b) true) := by
  have z := ns_size_le b
  have := rsub_in a (ns (vn b)) b w ha hb (by omega) (by rw [vn_ns]; exact h) ⟨_, ?_, rcmp_any a b w ha hb⟩ (fun w => rtrim_any b w (by unfold maxLen; omega))
  · rw [vn_ns] at this; exact this
  · rcases Nat.eq_or_lt_of_le h with h | h
    · rw [h, cmp_eq]; omega
    · rw [cmp_gt h]; omega
end Go.Proofs.YtbpdgfilffdegaaDoor
