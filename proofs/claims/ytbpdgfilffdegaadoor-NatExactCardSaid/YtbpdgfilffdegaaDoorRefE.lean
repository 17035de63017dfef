/- Walks: augurref.NatMul. -/
import Derived.Test.YtbpdgfilffdegaaDoorRefD
set_option linter.unusedVariables false
set_option linter.unusedSimpArgs false
namespace Go.Proofs.YtbpdgfilffdegaaDoor
open Go.RowKit
open Go.IntWalk (wrap64_in)

theorem lo8_set (l : List Nat) (v : Nat) : ∀ i, i < l.length → lo8 (l.set i v) + 256 ^ i * l.getD i default = lo8 l + 256 ^ i * v := by
  induction l with
  | nil => intro i h; simp at h
  | cons d l ih =>
    intro i h
    cases i with
    | zero => simp only [List.set_cons_zero, lo8, List.getD_cons_zero, Nat.pow_zero, Nat.one_mul]; omega
    | succ i =>
      have := ih i (by simpa using h)
      simp only [List.set_cons_succ, lo8, List.getD_cons_succ, Nat.pow_succ]
      rw [Nat.mul_comm (256 ^ i) 256, Nat.mul_assoc, Nat.mul_assoc]
      omega
theorem rmul_step (os : List Nat) (B P i k cc x y o N : Nat) (hy : B / 256 ^ k % 256 = y) (hik : i + k < os.length) (ho : os.getD (i + k) default = o) (hN : N = cc + o + x * y)
    (h : lo8 os + 256 ^ (i + k) * cc = P + 256 ^ i * (x * (B % 256 ^ k))) :
    lo8 (os.set (i + k) (N % 256)) + 256 ^ (i + (k + 1)) * (N / 256) = P + 256 ^ i * (x * (B % 256 ^ (k + 1))) := by
  have hs := lo8_set os (N % 256) (i + k) hik
  rw [ho] at hs
  rw [mod_step B k, hy]
  have e1 : 256 ^ (i + (k + 1)) * (N / 256) + 256 ^ (i + k) * (N % 256) = 256 ^ (i + k) * cc + 256 ^ (i + k) * o + 256 ^ (i + k) * (x * y) := by
    rw [← Nat.mul_add, ← Nat.mul_add, ← hN, ← Nat.add_assoc, Nat.pow_succ, Nat.mul_assoc, ← Nat.mul_add, Nat.div_add_mod]
  have e2 : 256 ^ i * (x * (B % 256 ^ k + 256 ^ k * y)) = 256 ^ i * (x * (B % 256 ^ k)) + 256 ^ (i + k) * (x * y) := by
    rw [Nat.mul_add, Nat.mul_add, Nat.pow_add]
    congr 1
    rw [Nat.mul_left_comm x, ← Nat.mul_assoc]
  rw [e2]; omega
theorem rmul_row (os : List Nat) (A B i m cc x : Nat) (hx : A / 256 ^ i % 256 = x) (hm : B < 256 ^ m) (hik : i + m < os.length) (ho : os.getD (i + m) default = 0)
    (h : lo8 os + 256 ^ (i + m) * cc = A % 256 ^ i * B + 256 ^ i * (x * (B % 256 ^ m))) : lo8 (os.set (i + m) cc) = A % 256 ^ (i + 1) * B := by
  have hs := lo8_set os cc (i + m) hik
  rw [ho, Nat.mul_zero, Nat.add_zero] at hs
  rw [hs, h, Nat.mod_eq_of_lt hm, mod_step A, hx, Nat.add_mul, Nat.mul_assoc]
theorem intVals_set (os : List Nat) (i d : Nat) : intVals (os.set i d) = (intVals os).set i (.int .i64 (d : Nat)) := by simp [intVals, List.map_set]
theorem intVals_len (os : List Nat) : (intVals os).length = os.length := by simp [intVals]
theorem intVals_get (os : List Nat) (i : Nat) (h : i < os.length) : (intVals os)[i]'(by rw [intVals_len]; exact h) = .int .i64 ((os.getD i default : Nat)) := by
  simp [intVals, List.getD_eq_getElem?_getD, List.getElem?_eq_getElem h]
theorem all_set {os : List Nat} (h : ∀ d ∈ os, d < 256) (i v : Nat) (hv : v < 256) : ∀ d ∈ os.set i v, d < 256 := by
  intro d hd
  rcases List.mem_or_eq_of_mem_set hd with h1 | h1
  · exact h d h1
  · omega
theorem all_get {os : List Nat} (h : ∀ d ∈ os, d < 256) (i : Nat) (hi : i < os.length) : os.getD i default < 256 :=
  h _ (by rw [List.getD_eq_getElem?_getD, List.getElem?_eq_getElem hi]; exact List.getElem_mem hi)

set_option maxRecDepth 100000 in
set_option maxHeartbeats 2000000 in
theorem rmul_in (a b S T : ByteArray) (w : World) (hTa : ∀ w, Calls Tryd.prog 47 #[.string a] w fun e w' => e = .returned (.string S) ∧ w = w') (hTb : ∀ w, Calls Tryd.prog 47 #[.string b] w fun e w' => e = .returned (.string T) ∧ w = w')
    (hS : S.size ≤ 137438953472) (hT : T.size ≤ 137438953472) :
    Calls Tryd.prog 51 #[.string a, .string b] w (RetNat w (vn S * vn T)) := by
  have HA := Lib.hid hTa
  have HB := Lib.hid hTb
  clear hTa hTb
  have D1 := Lib.hid (fun i (h : i ≤ 9223372036854775807) w => digit_any S i w (by unfold maxLen; omega) h)
  have D2 := Lib.hid (fun i (h : i ≤ 9223372036854775807) w => digit_any T i w (by unfold maxLen; omega) h)
  have HV : Hid (vn S < 256 ^ S.size ∧ vn T < 256 ^ T.size) := ⟨vn_lt S, vn_lt T⟩
  by_cases h7 : S.size + T.size ≤ 7
  · have S1 := Lib.hid (short_yes S w (by omega))
    have S2 := Lib.hid (short_yes T w (by omega))
    have hp : vn S * vn T < 256 ^ (S.size + T.size) := by rw [Nat.pow_add]; exact Nat.mul_lt_mul'' HV.out.1 HV.out.2
    have hp2 : 256 ^ (S.size + T.size) ≤ 256 ^ 7 := Nat.pow_le_pow_right (by omega) h7
    have hp3 : vn S * vn T < 72057594037927936 := by omega
    have e : ((vn S : Nat) : Int) * (vn T : Nat) = ((vn S * vn T : Nat) : Int) := by omega
    have HO := Lib.hid (rof_any ((vn S * vn T : Nat) : Int) w (by omega) (by omega))
    have hm0 : (0 : Int) ≤ ((vn S * vn T : Nat) : Int) := by omega
    clear hp hp2 D1 D2 HV
    generalize vn S * vn T = P at *
    generalize vn S = x at *
    generalize vn T = y at *
    go_enter Tryd.func51, Tryd.ntmps51
    go_wp2_with fail
    refine (HA.out _).mono ?_; rintro e w' ⟨rfl, rfl⟩
    go_wp2_with fail
    refine (HB.out _).mono ?_; rintro e w' ⟨rfl, rfl⟩
    go_wp2_with fail
    refine S1.out.mono ?_; rintro e w' ⟨rfl, rfl⟩
    go_wp2_with fail
    refine S2.out.mono ?_; rintro e w' ⟨rfl, rfl⟩
    go_wp2_with fail
    refine HO.out.mono ?_; rintro e w' ⟨rfl, hb⟩
    go_wp2_with fail
    go_ret
    exact ⟨rfl, hb⟩
  · obtain ⟨w0, hmk, hw0⟩ := make_full el_ints w .i64 .i64 (S.size + T.size + 1) (by omega) (by decide)
    rw [show ((S.size + T.size + 1 : Nat) : Int) = (S.size : Int) + (T.size : Int) + 1 by omega] at hmk
    have hblk0 := Blk.newA w 3 (madeCells #[Value.int IntKind.i64 0] (S.size + T.size + 1))
    rw [toList_madeCells_one] at hblk0
    have hbm := (Below.refl w.heap.size w).alloc (Nat.le_refl _) (.cells (madeCells #[Value.int IntKind.i64 0] (S.size + T.size + 1)) 3)
    have hw0' : w0 = w.alloc (.cells (madeCells #[Value.int IntKind.i64 0] (S.size + T.size + 1)) 3) := by rw [hw0]; simp [Value.cells]
    rw [← hw0'] at hblk0 hbm
    have hrep : List.replicate (S.size + T.size + 1) (Value.int .i64 0) = intVals (List.replicate (S.size + T.size + 1) 0) := by simp [intVals]
    rw [hrep] at hblk0
    clear hw0 hw0' hrep
    go_enter Tryd.func51, Tryd.ntmps51
    go_wp2_with fail
    refine (HA.out _).mono ?_; rintro e w' ⟨rfl, rfl⟩
    go_wp2_with fail
    refine (HB.out _).mono ?_; rintro e w' ⟨rfl, rfl⟩
    go_wp2_with fail
    go_loopw [10] (fun q wr => ∃ (i : Nat) (os : List Nat), q = .int .i64 i ∧ i ≤ S.size ∧ Blk wr w.heap.size 3 (intVals os) ∧ os.length = S.size + T.size + 1 ∧ (∀ d ∈ os, d < 256) ∧ (∀ j, i + T.size ≤ j → os.getD j default = 0) ∧ lo8 os = vn S % 256 ^ i * vn T ∧ Below w.heap.size w wr) (fun q _ => S.size - (intOf q).toNat)
    case atStart => exact ⟨0, _, rfl, Nat.zero_le _, hblk0, by simp, fun x hx => by rw [List.eq_of_mem_replicate hx]; omega, fun j _ => by rw [List.getD_eq_getElem?_getD, List.getElem?_replicate]; split <;> rfl, by rw [lo8_zeros]; simp [Nat.mod_one], hbm⟩
    case round =>
      obtain ⟨i, os0, rfl, hi, hblk, hos, hlo, hz, hlv, hbr⟩ := hrel
      clear hmk hblk0 hbm
      obtain ⟨wo, rfl⟩ : ∃ wo : World, wo = wr := ⟨_, rfl⟩
      by_cases hlt : i < S.size
      · have d1 := D1.out i (by omega)
        have hx1 : vn S / 256 ^ i % 256 < 256 := Nat.mod_lt _ (by omega)
        have HO : Hid (lo8 os0 = vn S % 256 ^ i * vn T ∧ (∀ d ∈ os0, d < 256) ∧ os0.length = S.size + T.size + 1 ∧ Blk wo w.heap.size 3 (intVals os0) ∧ (∀ j, i + T.size ≤ j → os0.getD j default = 0)) := ⟨hlv, hlo, hos, hblk, hz⟩
        generalize hxx : vn S / 256 ^ i % 256 = x at *
        have HX := Lib.hid hxx
        have G1 := Lib.hid d1
        clear hlv hlo hos hblk hxx hz d1
        go_wp2_with fail
        refine (G1.out _).mono ?_; rintro e w' ⟨rfl, rfl⟩
        go_wp2_with fail
        go_loopw [12, 13] (fun c q wr => ∃ (k cc : Nat) (os : List Nat), q = .int .i64 k ∧ k ≤ T.size ∧ c = .int .i64 cc ∧ cc < 256 ∧ Blk wr w.heap.size 3 (intVals os) ∧ os.length = S.size + T.size + 1 ∧ (∀ d ∈ os, d < 256) ∧ (∀ j, i + T.size ≤ j → os.getD j default = 0) ∧ lo8 os + 256 ^ (i + k) * cc = vn S % 256 ^ i * vn T + 256 ^ i * (x * (vn T % 256 ^ k)) ∧ Below w.heap.size w wr) (fun _ q _ => T.size - (intOf q).toNat)
        case atStart => exact ⟨0, 0, os0, rfl, Nat.zero_le _, rfl, by omega, HO.out.2.2.2.1, HO.out.2.2.1, HO.out.2.1, HO.out.2.2.2.2, by simp [Nat.mod_one, HO.out.1], hbr⟩
        case round =>
          obtain ⟨k, cc, os, rfl, hk, rfl, hcc, hblk, hos, hlo, hz, hlv, hb2r⟩ := hrel
          by_cases hkm : k < T.size
          · have d2 := D2.out k (by omega)
            have hx2 : vn T / 256 ^ k % 256 < 256 := Nat.mod_lt _ (by omega)
            have hik : i + k < os.length := by omega
            have hcell := hblk.cell (i + k) (by rw [intVals_len]; exact hik)
            rw [intVals_get os (i + k) hik] at hcell
            have hfr := hblk.frozen (i + k)
            have ho3 := all_get hlo (i + k) hik
            have hst := fun y o N hy ho hN => rmul_step os (vn T) _ i k cc x y o N hy hik ho hN hlv
            have hst2 := hst _ _ _ rfl rfl rfl
            generalize vn T / 256 ^ k % 256 = y at *
            generalize os.getD (i + k) default = o at *
            have hxy : (x : Int) * (y : Int) = ((x * y : Nat) : Int) := by rw [Int.natCast_mul]
            have hxb : x * y ≤ 255 * 255 := Nat.mul_le_mul (by omega) (by omega)
            generalize x * y = pxy at *
            have HH : Hid (lo8 (os.set (i + k) ((cc + o + pxy) % 256)) + 256 ^ (i + (k + 1)) * ((cc + o + pxy) / 256) = vn S % 256 ^ i * vn T + 256 ^ i * (x * (vn T % 256 ^ (k + 1))) ∧ Blk wr w.heap.size 3 (intVals os) ∧ os.length = S.size + T.size + 1 ∧ (∀ d ∈ os, d < 256) ∧ (∀ j, i + T.size ≤ j → os.getD j default = 0)) := ⟨hst2, hblk, hos, hlo, hz⟩
            have G2 := Lib.hid d2
            clear hst hst2 hblk hos hlv d2 hlo hz
            go_wp2_with fail
            refine (G2.out _).mono ?_; rintro e w' ⟨rfl, rfl⟩
            go_wp2_with fail
            obtain ⟨hst, hblk, hos, hlo, hz⟩ := HH.out
            refine ⟨⟨k + 1, (cc + o + pxy) / 256, os.set (i + k) ((cc + o + pxy) % 256), by go_num, by omega, by go_num, by omega, ?_, by simpa using hos, all_set hlo _ _ (by omega), ?_, hst, hb2r.setCell (Nat.le_refl _) _⟩, by simp [intOf]; omega⟩
            · have := hblk.set (i + k) (Value.int .i64 (((cc + o + pxy) % 256 : Nat) : Int))
              rw [intVals_set]
              rw [show (((cc + o + pxy) % 256 : Nat) : Int) = ((cc : Int) + (o : Int) + (pxy : Int)) % 256 by omega] at this ⊢
              exact this
            · intro j hj
              rw [List.getD_eq_getElem?_getD, List.getElem?_set_ne (by omega), ← List.getD_eq_getElem?_getD]
              exact hz j hj
          · obtain rfl : k = T.size := by omega
            have hik : i + T.size < os.length := by omega
            have hfin := rmul_row os (vn S) (vn T) i T.size cc x HX.out HV.out.2 hik (hz _ (Nat.le_refl _)) hlv
            have hcell := hblk.cell (i + T.size) (by rw [intVals_len]; exact hik)
            rw [intVals_get os (i + T.size) hik, hz _ (Nat.le_refl _)] at hcell
            have hfr := hblk.frozen (i + T.size)
            have HH : Hid (lo8 (os.set (i + T.size) cc) = vn S % 256 ^ (i + 1) * vn T ∧ Blk wr w.heap.size 3 (intVals os) ∧ os.length = S.size + T.size + 1 ∧ (∀ d ∈ os, d < 256) ∧ (∀ j, i + T.size ≤ j → os.getD j default = 0)) := ⟨hfin, hblk, hos, hlo, hz⟩
            clear hfin hblk hos hlv hlo hz
            go_wp2_with fail
            obtain ⟨hfin, hblk, hos, hlo, hz⟩ := HH.out
            refine ⟨⟨i + 1, os.set (i + T.size) cc, by go_num, by omega, ?_, by simpa using hos, all_set hlo _ _ hcc, ?_, hfin, hb2r.setCell (Nat.le_refl _) _⟩, by simp [intOf]; omega⟩
            · have := hblk.set (i + T.size) (Value.int .i64 (cc : Int))
              rw [intVals_set]
              simpa using this
            · intro j hj
              rw [List.getD_eq_getElem?_getD, List.getElem?_set_ne (by omega), ← List.getD_eq_getElem?_getD]
              exact hz j (by omega)
      · obtain rfl : i = S.size := by omega
        rw [Nat.mod_eq_of_lt HV.out.1] at hlv
        have hP := pack_any os0 _ wo (SliceAt.blk (n := S.size + T.size + 1) hblk (by rw [intVals_len]; exact hos) (by unfold maxLen; omega)) hlo (by omega)
        rw [hlv] at hP
        have HP := Lib.hid hP
        clear hP hlv hblk hos hlo hz
        go_wp2_with fail
        refine HP.out.mono ?_; rintro e w' ⟨rfl, hb3⟩
        go_wp2_with fail
        go_ret
        exact ⟨rfl, hbr.trans (hb3.mono hbr.size)⟩

theorem rmul_any (a b : ByteArray) (w : World) (ha : a.size ≤ 137438953472) (hb : b.size ≤ 137438953472) :
    Calls Tryd.prog 51 #[.string a, .string b] w (RetNat w (vn a * vn b)) := by
  have z1 := ns_size_le a
  have z2 := ns_size_le b
  have := rmul_in a b (ns (vn a)) (ns (vn b)) w (fun w => rtrim_any a w (by unfold maxLen; omega)) (fun w => rtrim_any b w (by unfold maxLen; omega)) (by omega) (by omega)
  rw [vn_ns, vn_ns] at this
  exact this
end Go.Proofs.YtbpdgfilffdegaaDoor
