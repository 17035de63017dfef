/- Walks: augurref.NatOf, NatCmp. -/
import Derived.Test.YtbpdgfilffdegaaDoorRefA
import Derived.Deep.QuietTactic
import Derived.BigQuiet
set_option linter.unusedVariables false
set_option linter.unusedSimpArgs false
namespace Go.Proofs.YtbpdgfilffdegaaDoor
open Go.RowKit
open Go.IntWalk (wrap64_in)

set_option maxRecDepth 100000 in
set_option maxHeartbeats 1000000 in
theorem rof_any (n : Int) (w : World) (hn : n ≤ 9223372036854775807) (h0 : -9223372036854775808 ≤ n) :
    Calls Tryd.prog 48 #[.int .i64 n] w fun e w' => e = .returned (.string (ns n.toNat)) ∧ Below w.heap.size w w' := by
  go_enter Tryd.func48, Tryd.ntmps48
  go_wp2
  go_loopw [0, 3] (fun m v wr => ∃ (k : Int) (t : List UInt8), m = .int .i64 k ∧ k ≤ 9223372036854775807 ∧ -9223372036854775808 ≤ k ∧ v = .string ⟨t.toArray⟩ ∧ nb n.toNat = nb k.toNat ++ t ∧ t.length + (nb k.toNat).length ≤ 8 ∧ Below w.heap.size w wr) (fun m _ _ => (intOf m).toNat)
  case atStart => exact ⟨n, [], rfl, hn, h0, rfl, by simp, by have := @nb_length_lt n.toNat 8 (by omega); simpa using this, Below.refl _ _⟩
  case round =>
    obtain ⟨k, t, rfl, hk, hk0, rfl, hnb, hl, hb⟩ := hrel
    by_cases hp : 0 < k
    · obtain ⟨q, rfl⟩ := Int.eq_ofNat_of_zero_le (Int.le_of_lt hp)
      simp only [Int.toNat_natCast] at hnb hl
      have H : Hid (nb n.toNat = nb q ++ t) := hnb
      have hl2 : (nb q).length = (nb (q / 256)).length + 1 := by rw [nb_pos q (by omega)]; simp
      clear hnb
      have hcv := fun w' => conv_bytes (P := Tryd.prog) (l := [UInt8.ofNat (q % 256)]) (SliceAt.lit w' 5 1 1 #[.int .u8 ((UInt8.ofNat (q % 256)).toNat : Int)] rfl (by decide)) 130 5 49 Tryd.underlying130 Tryd.underlying5 Tryd.underlying49
      have ec : ((UInt8.ofNat (q % 256)).toNat : Int) = (q : Int) % 256 := by simp
      simp only [ec] at hcv
      clear ec
      generalize hx : UInt8.ofNat (q % 256) = x at hcv
      have HX := Lib.hid hx; clear hx
      have hlx : (⟨#[x]⟩ : ByteArray).size = 1 := rfl
      have hlt : (⟨t.toArray⟩ : ByteArray).size = t.length := List.size_toArray
      go_wp2
      refine ⟨⟨(q : Int) / 256, x :: t, by go_num, by omega, by omega, by apply congrArg; apply bytes_ext; simp, ?_, ?_, hb.alloc hb.size _⟩, by simp [intOf]; omega⟩
      · rw [H.out, nb_pos q (by omega), HX.out]; simp [show ((q : Int) / 256).toNat = q / 256 by omega]
      · rw [show ((q : Int) / 256).toNat = q / 256 by omega]; simp; omega
    · have e0 : k.toNat = 0 := by omega
      have H : Hid (nb n.toNat = t) := by rw [hnb, e0, nb_zero]; rfl
      clear hnb hl
      go_wp2
      go_ret
      exact ⟨ret_str (by unfold ns; rw [H.out]), hb⟩

theorem cmp_lt {a b : Nat} (h : a < b) : cmpN a b = -1 := by rw [cmpN, if_pos h]
theorem cmp_eq (a : Nat) : cmpN a a = 0 := by rw [cmpN, if_neg (Nat.lt_irrefl _), if_pos rfl]
theorem cmp_gt {a b : Nat} (h : b < a) : cmpN a b = 1 := by rw [cmpN, if_neg (by omega), if_neg (by omega)]
theorem head_lt (S T : ByteArray) (i : Nat) (hs : S.size = T.size) (h1 : i < S.size) (h2 : i < T.size) (he : S.data.toList.take i = T.data.toList.take i) (hl : S[i].toNat < T[i].toNat) : vn S < vn T := by
  have e1 : vn S = nv (S.data.toList.take i) * 256 ^ (S.size - i) + nv (S.data.toList.drop i) := by
    have := congrArg nv (List.take_append_drop i S.data.toList).symm
    rw [nv_append, List.length_drop, bytes_size] at this; exact this
  have e2 : vn T = nv (T.data.toList.take i) * 256 ^ (T.size - i) + nv (T.data.toList.drop i) := by
    have := congrArg nv (List.take_append_drop i T.data.toList).symm
    rw [nv_append, List.length_drop, bytes_size] at this; exact this
  rw [drop_succ S i h1, nv_cons] at e1
  rw [drop_succ T i h2, nv_cons] at e2
  have l1 := nv_lt (S.data.toList.drop (i + 1))
  have z1 : (S.data.toList.drop (i + 1)).length = S.size - (i + 1) := by rw [List.length_drop, bytes_size]
  have z2 : (T.data.toList.drop (i + 1)).length = S.size - (i + 1) := by rw [List.length_drop, bytes_size, hs]
  rw [z1] at e1 l1
  rw [z2, ← he, ← hs] at e2
  have := Nat.mul_le_mul_right (256 ^ (S.size - (i + 1))) (show S[i].toNat + 1 ≤ T[i].toNat by omega)
  rw [Nat.add_mul] at this
  omega

set_option maxRecDepth 100000 in
set_option maxHeartbeats 2000000 in
theorem rcmp_in (a b S T : ByteArray) (w : World) (hTa : Calls Tryd.prog 47 #[.string a] w fun e w' => e = .returned (.string S) ∧ w = w') (hTb : Calls Tryd.prog 47 #[.string b] w fun e w' => e = .returned (.string T) ∧ w = w')
    (hS : S.size ≤ 4611686018427387904) (hT : T.size ≤ 4611686018427387904) (hlt : S.size < T.size → vn S < vn T) (hgt : T.size < S.size → vn T < vn S) :
    Calls Tryd.prog 49 #[.string a, .string b] w fun e w' => e = .returned (.int .i64 (cmpN (vn S) (vn T))) ∧ Below w.heap.size w w' := by
  have HA := Lib.hid hTa; clear hTa
  have HB := Lib.hid hTb; clear hTb
  rcases Nat.lt_trichotomy S.size T.size with h | h | h
  · rw [cmp_lt (hlt h)]
    clear hlt hgt
    go_enter Tryd.func49, Tryd.ntmps49
    go_wp2_with fail
    refine HA.out.mono ?_; rintro e w' ⟨rfl, rfl⟩
    go_wp2_with fail
    refine HB.out.mono ?_; rintro e w' ⟨rfl, rfl⟩
    go_wp2_with fail
    go_ret
    exact ⟨rfl, Below.refl _ _⟩
  · clear hlt hgt
    have HE := Lib.hid h; clear h
    go_enter Tryd.func49, Tryd.ntmps49
    go_wp2_with fail
    refine HA.out.mono ?_; rintro e w' ⟨rfl, rfl⟩
    go_wp2_with fail
    refine HB.out.mono ?_; rintro e w' ⟨rfl, rfl⟩
    have h1 : ¬ ((S.size : Int) < (T.size : Int)) := by have := HE.out; omega
    have h2 : ¬ ((T.size : Int) < (S.size : Int)) := by have := HE.out; omega
    have d1 : decide (S.size < T.size) = false := decide_eq_false (by have := HE.out; omega)
    have d2 : decide (T.size < S.size) = false := decide_eq_false (by have := HE.out; omega)
    go_wp2_with fail
    go_loopw [5] (fun q wr => ∃ i : Nat, q = .int .i64 i ∧ i ≤ S.size ∧ S.data.toList.take i = T.data.toList.take i ∧ Below w.heap.size w wr) (fun q _ => S.size - (intOf q).toNat)
    case atStart => exact ⟨0, rfl, Nat.zero_le _, rfl, Below.refl _ _⟩
    case round =>
      obtain ⟨i, rfl, hi, htk, hb⟩ := hrel
      by_cases h0 : i < S.size
      · have h0' : i < T.size := by have := HE.out; omega
        have hl1 := head_lt S T i HE.out h0 h0' htk
        have hl2 := head_lt T S i HE.out.symm h0' h0 htk.symm
        have hst : S[i].toNat = T[i].toNat → S.data.toList.take (i + 1) = T.data.toList.take (i + 1) := fun e => by
          rw [take_succ S i h0, take_succ T i h0', htk, UInt8.toNat_inj.1 e]
        have H : Hid ((S[i].toNat = T[i].toNat → S.data.toList.take (i + 1) = T.data.toList.take (i + 1)) ∧ (S[i].toNat < T[i].toNat → vn S < vn T) ∧ (T[i].toNat < S[i].toNat → vn T < vn S)) := ⟨hst, hl1, hl2⟩
        clear hl1 hl2 hst htk
        rcases Nat.lt_trichotomy S[i].toNat T[i].toNat with hxy | hxy | hxy
        · go_wp2
          go_quiet (fail)
          go_wp2
          go_ret
          exact ⟨ret_int (by rw [cmp_lt (H.out.2.1 hxy)]), below_drewN hb _⟩
        · have n1 : ¬ ((S[i].toNat : Int) < (T[i].toNat : Int)) := by omega
          have n2 : ¬ ((T[i].toNat : Int) < (S[i].toNat : Int)) := by omega
          have HX := Lib.hid hxy; clear hxy
          go_wp2
          go_quiet (fail)
          go_wp2
          go_quiet (fail)
          go_wp2
          exact ⟨⟨i + 1, rfl, by omega, H.out.1 HX.out, below_drewN hb _⟩, by simp [intOf]; omega⟩
        · go_wp2
          go_quiet (fail)
          go_wp2
          go_quiet (fail)
          go_wp2
          go_ret
          exact ⟨ret_int (by rw [cmp_gt (H.out.2.2 hxy)]), below_drewN (below_drewN hb _) _⟩
      · have e : vn S = vn T := by
          have : S.data.toList = T.data.toList := by
            rw [← List.take_of_length_le (l := S.data.toList) (i := i) (by rw [bytes_size]; omega), htk, List.take_of_length_le (by rw [bytes_size]; have := HE.out; omega)]
          rw [vn, vn, this]
        have HV := Lib.hid e
        clear htk e
        go_wp2
        go_ret
        exact ⟨ret_int (by rw [HV.out, cmp_eq]), hb⟩
  · rw [cmp_gt (hgt h)]
    clear hlt hgt
    go_enter Tryd.func49, Tryd.ntmps49
    go_wp2_with fail
    refine HA.out.mono ?_; rintro e w' ⟨rfl, rfl⟩
    go_wp2_with fail
    refine HB.out.mono ?_; rintro e w' ⟨rfl, rfl⟩
    go_wp2_with fail
    go_ret
    exact ⟨rfl, Below.refl _ _⟩

theorem rcmp_any (a b : ByteArray) (w : World) (ha : a.size ≤ 274877906944) (hb : b.size ≤ 274877906944) :
    Calls Tryd.prog 49 #[.string a, .string b] w fun e w' => e = .returned (.int .i64 (cmpN (vn a) (vn b))) ∧ Below w.heap.size w w' := by
  have z1 := ns_size_le a
  have z2 := ns_size_le b
  have := rcmp_in a b (ns (vn a)) (ns (vn b)) w (rtrim_any a w (by unfold maxLen; omega)) (rtrim_any b w (by unfold maxLen; omega)) (by omega) (by omega)
    (fun h => by rw [vn_ns, vn_ns]; exact ns_size_lt h) (fun h => by rw [vn_ns, vn_ns]; exact ns_size_lt h)
  rw [vn_ns, vn_ns] at this
  exact this
end Go.Proofs.YtbpdgfilffdegaaDoor
