/- Walks: augurref.NatDiv over numbers of more than seven bytes, Gcd. -/
import Derived.Test.YtbpdgfilffdegaaDoorRefF
set_option linter.unusedVariables false
set_option linter.unusedSimpArgs false
namespace Go.Proofs.YtbpdgfilffdegaaDoor
open Go.RowKit
open Go.IntWalk (wrap64_in)

def strOf : Value → ByteArray | .string t => t | _ => ⟨#[]⟩
theorem rdiv_end {A B Q R : Nat} (h : A = Q * B + R) (hR : R < B) : Q = A / B ∧ R = A % B := by
  subst h
  constructor
  · rw [Nat.add_comm, Nat.add_mul_div_right _ _ (by omega), Nat.div_eq_of_lt hR, Nat.zero_add]
  · rw [Nat.add_comm, Nat.add_mul_mod_self_right, Nat.mod_eq_of_lt hR]
theorem vn_snoc (R : Nat) (S : ByteArray) (i : Nat) (h : i < S.size) : vn (ns R ++ S.extract i (i + 1)) = R * 256 + S[i].toNat ∧ (ns R ++ S.extract i (i + 1)).size = (ns R).size + 1 := by
  have e : (S.extract i (i + 1)).data.toList = [S[i]] := by
    rw [ByteArray.data_extract, Array.toList_extract, List.extract_eq_take_drop, Nat.add_sub_cancel_left, drop_succ S i h]; rfl
  constructor
  · show nv _ = _
    rw [show (ns R ++ S.extract i (i + 1)).data.toList = nb R ++ [S[i]] by rw [← ns_toList, ← e]; simp, nv_snoc, nv_nb]
  · rw [ByteArray.size_append, ByteArray.size_extract]; omega

set_option maxRecDepth 100000 in
set_option maxHeartbeats 2000000 in
theorem rdiv_long (a b S T : ByteArray) (w : World) (hTa : ∀ w, Calls Tryd.prog 47 #[.string a] w fun e w' => e = .returned (.string S) ∧ w = w') (hTb : ∀ w, Calls Tryd.prog 47 #[.string b] w fun e w' => e = .returned (.string T) ∧ w = w')
    (hS : S.size ≤ 137438953472) (hT : T.size ≤ 137438953472) (hcase : 7 < S.size) (h0 : vn T ≠ 0) (hTn : T.size ≠ 0) :
    Calls Tryd.prog 55 #[.string a, .string b] w (RetDiv w (vn S / vn T) (vn S % vn T) true) := by
  have HW1 := fun w => short_no S w (by unfold maxLen; omega) hcase
  have n1 := toList_ne _ hTn
  have n2 := isEmpty_false _ hTn
  have HT : Hid (vn T < 256 ^ T.size) := vn_lt T
  have H0 : Hid (vn T ≠ 0) := h0
  have G1 := Lib.hid hTa
  have G2 := Lib.hid hTb
  have G3 := Lib.hid HW1
  obtain ⟨yy, pp, G4⟩ : ∃ (y : Int) (p : Bool), Hid (∀ w, Calls Tryd.prog 121 #[.string T] w fun e w' => e = .returned (.tuple #[.int .i64 y, .bool p]) ∧ w = w') := by
    rcases Nat.lt_or_ge 7 T.size with hT7 | hT7
    · exact ⟨_, _, fun w => short_no T w (by unfold maxLen; omega) hT7⟩
    · exact ⟨_, _, fun w => short_yes T w hT7⟩
  clear hTa hTb HW1 h0
  go_enter Tryd.func55, Tryd.ntmps55
  go_wp2_with (fail)
  refine (G1.out _).mono ?_; rintro e w' ⟨rfl, rfl⟩
  go_wp2_with (fail)
  refine (G2.out _).mono ?_; rintro e w' ⟨rfl, rfl⟩
  go_wp2_with (fail)
  refine (G3.out _).mono ?_; rintro e w' ⟨rfl, rfl⟩
  go_wp2_with (fail)
  refine (G4.out _).mono ?_; rintro e w' ⟨rfl, rfl⟩
  go_wp2_with (fail)
  go_loopw [11, 12, 13] (fun q r v wr => ∃ (i R : Nat) (qs : List UInt8), v = .int .i64 i ∧ i ≤ S.size ∧ r = .string (ns R) ∧ R < vn T ∧ wr.ownsRow w.heap.size 5 1 q qs.length (byteVals qs) ∧ qs.length = i ∧ nv (S.data.toList.take i) = nv qs * vn T + R ∧ Below w.heap.size w wr) (fun _ _ v _ => S.size - (intOf v).toNat)
  case atStart => exact ⟨0, 0, [], rfl, Nat.zero_le _, by rw [ns_zero], Nat.pos_of_ne_zero H0.out, World.ownsRow_nil _ _ _ _, rfl, by simp [nv_nil], Below.refl _ _⟩
  case round =>
    obtain ⟨i, R, qs, rfl, hi, rfl, hR, hown, hql, hnv, hbr⟩ := hrel
    obtain ⟨wo, rfl⟩ : ∃ wo : World, wo = wr := ⟨_, rfl⟩
    by_cases hlt : i < S.size
    · obtain ⟨hv, hz⟩ := vn_snoc R S i hlt
      have hx := S[i].toNat_lt
      have hstep := nv_take_succ S i hlt
      have hRs : (ns R).size ≤ T.size := (Sz.le (m := R) HT.out (by omega)).str
      have hTr := fun w => rtrim_any (ns R ++ S.extract i (i + 1)) w (by unfold maxLen; omega)
      rw [hv] at hTr
      generalize S[i].toNat = x at *
      have G5 := Lib.hid hTr
      have K : Hid (R < vn T ∧ wo.ownsRow w.heap.size 5 1 u11 qs.length (byteVals qs) ∧ nv (S.data.toList.take (i + 1)) = (nv qs * vn T + R) * 256 + x ∧ vn (ns R ++ S.extract i (i + 1)) = R * 256 + x) := ⟨hR, hown, by rw [hstep, hnv], hv⟩
      have hsl := fun w1 => str_lh (P := Tryd.prog) Tryd.underlying49 S i (i + 1) (by omega) (by omega) w1
      rw [show ((i + 1 : Nat) : Int) = (i : Int) + 1 by omega] at hsl
      clear hTr hv hR hown hnv hstep
      go_wp2_with (fail)
      refine (G5.out _).mono ?_; rintro e w' ⟨rfl, rfl⟩
      go_wp2_with (fail)
      go_loopw [12, 14] (fun r d wr => ∃ (R' D : Nat), r = .string (ns R') ∧ d = .int .i64 D ∧ R' + D * vn T = R * 256 + x ∧ Below wo.heap.size wo wr) (fun r _ _ => vn (strOf r))
      case atStart => exact ⟨R * 256 + x, 0, rfl, rfl, by omega, Below.refl _ _⟩
      case round =>
        obtain ⟨R', D, rfl, rfl, hRD, hb2⟩ := hrel
        have hR' : (ns R').size ≤ T.size + 1 := (Sz.le (m := R') (n := R * 256 + x) (by unfold Sz; rw [Nat.pow_succ]; have := HT.out; have := K.out.1; omega) (by omega)).str
        have hDb : D ≤ 255 := by
          rcases Nat.lt_or_ge D 256 with h | h
          · omega
          · have := Nat.mul_le_mul_right (vn T) h
            have := K.out.1
            omega
        have hvv : vn (ns R') = R' := vn_ns R'
        rcases Nat.lt_or_ge R' (vn T) with hRT | hRT
        · have hs := rsub_no (ns R') T wr (by omega) (by omega) (by rw [hvv]; exact hRT)
          have GS := Lib.hid hs
          have hown2 : wr.ownsRow w.heap.size 5 1 u11 qs.length (byteVals qs) := owns_ext K.out.2.1 hb2
          have KD : Hid (R' + D * vn T = R * 256 + x ∧ R' < vn T) := ⟨hRD, hRT⟩
          clear hs hRD hRT hvv
          go_wp2_with (fail)
          refine GS.out.mono ?_; rintro e w3 ⟨rfl, hb3⟩
          have hown3 := owns_ext hown2 hb3
          have hsz3 : w.heap.size ≤ w3.heap.size := Nat.le_trans hbr.size (Nat.le_trans hb2.size hb3.size)
          go_wp2_with (at_builtin; go_must (refine wpList_app rfl _ _ 130 rfl w.heap.size el_bytes _ _ _ rfl (hown3.alloc _) _ rfl 1 [.int .u8 (D : Int)] (SliceAt.lit _ _ 1 1 _ rfl (by decide)) rfl (one_int _ _) (by omega) (by decide) (le_alloc hsz3 _) ?_); intro v' w' hown' hg)
          have hb4 : Below w.heap.size w w3 := hbr.trans ((hb2.trans (hb3.mono hb2.size)).mono hbr.size)
          have hbf := (hb4.alloc hsz3 (Obj.cells #[Value.int IntKind.u8 (D : Int)] 5)).grown hg (le_alloc hsz3 _) (fun k hk => (hown3.lt k hk).1)
          obtain ⟨hRD, hRT⟩ := KD.out
          have hD8 : (UInt8.ofNat D).toNat = D := by simp; omega
          refine ⟨⟨i + 1, R', qs ++ [UInt8.ofNat D], rfl, by omega, rfl, hRT, ?_, by simp [hql], ?_, hbf⟩, by simp [intOf]; omega⟩
          · rw [List.length_append]
            simpa [byteVals, hD8] using hown'
          · rw [K.out.2.2.1, nv_snoc, hD8, Nat.add_mul, Nat.add_mul, Nat.mul_right_comm]
            omega
        · have hs := rsub_yes (ns R') T wr (by omega) (by omega) (by rw [hvv]; exact hRT)
          rw [hvv] at hs
          have GS := Lib.hid hs
          have KD : Hid (R' - vn T + (D + 1) * vn T = R * 256 + x ∧ R' - vn T < R') := ⟨by rw [Nat.add_mul]; omega, by have := H0.out; omega⟩
          clear hs hRD hRT hvv
          go_wp2_with (fail)
          refine GS.out.mono ?_; rintro e w3 ⟨rfl, hb3⟩
          go_wp2_with (fail)
          refine ⟨⟨R' - vn T, D + 1, rfl, rfl, KD.out.1, hb2.trans (hb3.mono hb2.size)⟩, ?_⟩
          simp only [strOf, vn_ns]
          exact KD.out.2
    · obtain rfl : i = S.size := by omega
      rw [nv_take_all S _ (Nat.le_refl _)] at hnv
      obtain ⟨hQ, hRe⟩ := rdiv_end hnv hR
      have hconv := conv_bytes (P := Tryd.prog) (SliceAt.owned hown) 130 5 49 Tryd.underlying130 Tryd.underlying5 Tryd.underlying49
      have hsz : (⟨qs.toArray⟩ : ByteArray).size ≤ maxLen := by
        show qs.toArray.size ≤ maxLen
        rw [List.size_toArray, hql]; unfold maxLen; omega
      have hTr := fun w => rtrim_any ⟨qs.toArray⟩ w hsz
      have HV : Hid (vn ⟨qs.toArray⟩ = vn S / vn T) := hQ
      rw [HV.out] at hTr
      have G5 := Lib.hid hTr
      clear hTr hown hQ hnv hql hsz HV
      rw [← hRe]
      generalize (⟨qs.toArray⟩ : ByteArray) = Z at *
      go_wp2_with (go_at_call 47; refine (G5.out _).mono ?_; rintro e w' ⟨rfl, rfl⟩)
      go_ret3
      exact ⟨rfl, hbr⟩

set_option maxRecDepth 100000 in
set_option maxHeartbeats 2000000 in
theorem rdiv_wide (a b S T : ByteArray) (w : World) (hTa : ∀ w, Calls Tryd.prog 47 #[.string a] w fun e w' => e = .returned (.string S) ∧ w = w') (hTb : ∀ w, Calls Tryd.prog 47 #[.string b] w fun e w' => e = .returned (.string T) ∧ w = w')
    (hS : S.size ≤ 137438953472) (hT : T.size ≤ 137438953472) (hcase : S.size ≤ 7 ∧ 7 < T.size) (h0 : vn T ≠ 0) (hTn : T.size ≠ 0) :
    Calls Tryd.prog 55 #[.string a, .string b] w (RetDiv w (vn S / vn T) (vn S % vn T) true) := by
  have HW1 := fun w => short_yes S w hcase.1
  have n1 := toList_ne _ hTn
  have n2 := isEmpty_false _ hTn
  have HT : Hid (vn T < 256 ^ T.size) := vn_lt T
  have H0 : Hid (vn T ≠ 0) := h0
  have G1 := Lib.hid hTa
  have G2 := Lib.hid hTb
  have G3 := Lib.hid HW1
  have G4 := Lib.hid (fun w => short_no T w (by unfold maxLen; omega) hcase.2)
  clear hTa hTb HW1 h0
  go_enter Tryd.func55, Tryd.ntmps55
  go_wp2_with (fail)
  refine (G1.out _).mono ?_; rintro e w' ⟨rfl, rfl⟩
  go_wp2_with (fail)
  refine (G2.out _).mono ?_; rintro e w' ⟨rfl, rfl⟩
  go_wp2_with (fail)
  refine (G3.out _).mono ?_; rintro e w' ⟨rfl, rfl⟩
  go_wp2_with (fail)
  refine (G4.out _).mono ?_; rintro e w' ⟨rfl, rfl⟩
  go_wp2_with (fail)
  go_loopw [11, 12, 13] (fun q r v wr => ∃ (i R : Nat) (qs : List UInt8), v = .int .i64 i ∧ i ≤ S.size ∧ r = .string (ns R) ∧ R < vn T ∧ wr.ownsRow w.heap.size 5 1 q qs.length (byteVals qs) ∧ qs.length = i ∧ nv (S.data.toList.take i) = nv qs * vn T + R ∧ Below w.heap.size w wr) (fun _ _ v _ => S.size - (intOf v).toNat)
  case atStart => exact ⟨0, 0, [], rfl, Nat.zero_le _, by rw [ns_zero], Nat.pos_of_ne_zero H0.out, World.ownsRow_nil _ _ _ _, rfl, by simp [nv_nil], Below.refl _ _⟩
  case round =>
    obtain ⟨i, R, qs, rfl, hi, rfl, hR, hown, hql, hnv, hbr⟩ := hrel
    obtain ⟨wo, rfl⟩ : ∃ wo : World, wo = wr := ⟨_, rfl⟩
    by_cases hlt : i < S.size
    · obtain ⟨hv, hz⟩ := vn_snoc R S i hlt
      have hx := S[i].toNat_lt
      have hstep := nv_take_succ S i hlt
      have hRs : (ns R).size ≤ T.size := (Sz.le (m := R) HT.out (by omega)).str
      have hTr := fun w => rtrim_any (ns R ++ S.extract i (i + 1)) w (by unfold maxLen; omega)
      rw [hv] at hTr
      generalize S[i].toNat = x at *
      have G5 := Lib.hid hTr
      have K : Hid (R < vn T ∧ wo.ownsRow w.heap.size 5 1 u11 qs.length (byteVals qs) ∧ nv (S.data.toList.take (i + 1)) = (nv qs * vn T + R) * 256 + x ∧ vn (ns R ++ S.extract i (i + 1)) = R * 256 + x) := ⟨hR, hown, by rw [hstep, hnv], hv⟩
      have hsl := fun w1 => str_lh (P := Tryd.prog) Tryd.underlying49 S i (i + 1) (by omega) (by omega) w1
      rw [show ((i + 1 : Nat) : Int) = (i : Int) + 1 by omega] at hsl
      clear hTr hv hR hown hnv hstep
      go_wp2_with (fail)
      refine (G5.out _).mono ?_; rintro e w' ⟨rfl, rfl⟩
      go_wp2_with (fail)
      go_loopw [12, 14] (fun r d wr => ∃ (R' D : Nat), r = .string (ns R') ∧ d = .int .i64 D ∧ R' + D * vn T = R * 256 + x ∧ Below wo.heap.size wo wr) (fun r _ _ => vn (strOf r))
      case atStart => exact ⟨R * 256 + x, 0, rfl, rfl, by omega, Below.refl _ _⟩
      case round =>
        obtain ⟨R', D, rfl, rfl, hRD, hb2⟩ := hrel
        have hR' : (ns R').size ≤ T.size + 1 := (Sz.le (m := R') (n := R * 256 + x) (by unfold Sz; rw [Nat.pow_succ]; have := HT.out; have := K.out.1; omega) (by omega)).str
        have hDb : D ≤ 255 := by
          rcases Nat.lt_or_ge D 256 with h | h
          · omega
          · have := Nat.mul_le_mul_right (vn T) h
            have := K.out.1
            omega
        have hvv : vn (ns R') = R' := vn_ns R'
        rcases Nat.lt_or_ge R' (vn T) with hRT | hRT
        · have hs := rsub_no (ns R') T wr (by omega) (by omega) (by rw [hvv]; exact hRT)
          have GS := Lib.hid hs
          have hown2 : wr.ownsRow w.heap.size 5 1 u11 qs.length (byteVals qs) := owns_ext K.out.2.1 hb2
          have KD : Hid (R' + D * vn T = R * 256 + x ∧ R' < vn T) := ⟨hRD, hRT⟩
          clear hs hRD hRT hvv
          go_wp2_with (fail)
          refine GS.out.mono ?_; rintro e w3 ⟨rfl, hb3⟩
          have hown3 := owns_ext hown2 hb3
          have hsz3 : w.heap.size ≤ w3.heap.size := Nat.le_trans hbr.size (Nat.le_trans hb2.size hb3.size)
          go_wp2_with (at_builtin; go_must (refine wpList_app rfl _ _ 130 rfl w.heap.size el_bytes _ _ _ rfl (hown3.alloc _) _ rfl 1 [.int .u8 (D : Int)] (SliceAt.lit _ _ 1 1 _ rfl (by decide)) rfl (one_int _ _) (by omega) (by decide) (le_alloc hsz3 _) ?_); intro v' w' hown' hg)
          have hb4 : Below w.heap.size w w3 := hbr.trans ((hb2.trans (hb3.mono hb2.size)).mono hbr.size)
          have hbf := (hb4.alloc hsz3 (Obj.cells #[Value.int IntKind.u8 (D : Int)] 5)).grown hg (le_alloc hsz3 _) (fun k hk => (hown3.lt k hk).1)
          obtain ⟨hRD, hRT⟩ := KD.out
          have hD8 : (UInt8.ofNat D).toNat = D := by simp; omega
          refine ⟨⟨i + 1, R', qs ++ [UInt8.ofNat D], rfl, by omega, rfl, hRT, ?_, by simp [hql], ?_, hbf⟩, by simp [intOf]; omega⟩
          · rw [List.length_append]
            simpa [byteVals, hD8] using hown'
          · rw [K.out.2.2.1, nv_snoc, hD8, Nat.add_mul, Nat.add_mul, Nat.mul_right_comm]
            omega
        · have hs := rsub_yes (ns R') T wr (by omega) (by omega) (by rw [hvv]; exact hRT)
          rw [hvv] at hs
          have GS := Lib.hid hs
          have KD : Hid (R' - vn T + (D + 1) * vn T = R * 256 + x ∧ R' - vn T < R') := ⟨by rw [Nat.add_mul]; omega, by have := H0.out; omega⟩
          clear hs hRD hRT hvv
          go_wp2_with (fail)
          refine GS.out.mono ?_; rintro e w3 ⟨rfl, hb3⟩
          go_wp2_with (fail)
          refine ⟨⟨R' - vn T, D + 1, rfl, rfl, KD.out.1, hb2.trans (hb3.mono hb2.size)⟩, ?_⟩
          simp only [strOf, vn_ns]
          exact KD.out.2
    · obtain rfl : i = S.size := by omega
      rw [nv_take_all S _ (Nat.le_refl _)] at hnv
      obtain ⟨hQ, hRe⟩ := rdiv_end hnv hR
      have hconv := conv_bytes (P := Tryd.prog) (SliceAt.owned hown) 130 5 49 Tryd.underlying130 Tryd.underlying5 Tryd.underlying49
      have hsz : (⟨qs.toArray⟩ : ByteArray).size ≤ maxLen := by
        show qs.toArray.size ≤ maxLen
        rw [List.size_toArray, hql]; unfold maxLen; omega
      have hTr := fun w => rtrim_any ⟨qs.toArray⟩ w hsz
      have HV : Hid (vn ⟨qs.toArray⟩ = vn S / vn T) := hQ
      rw [HV.out] at hTr
      have G5 := Lib.hid hTr
      clear hTr hown hQ hnv hql hsz HV
      rw [← hRe]
      generalize (⟨qs.toArray⟩ : ByteArray) = Z at *
      go_wp2_with (go_at_call 47; refine (G5.out _).mono ?_; rintro e w' ⟨rfl, rfl⟩)
      go_ret3
      exact ⟨rfl, hbr⟩

theorem rdiv_any (a b : ByteArray) (w : World) (ha : a.size ≤ 137438953472) (hb : b.size ≤ 137438953472) (h0 : vn b ≠ 0) :
    Calls Tryd.prog 55 #[.string a, .string b] w (RetDiv w (vn a / vn b) (vn a % vn b) true) := by
  have z1 := ns_size_le a
  have z2 := ns_size_le b
  have hTa := fun w => rtrim_any a w (by unfold maxLen; omega)
  have hTb := fun w => rtrim_any b w (by unfold maxLen; omega)
  have v1 := vn_ns (vn a)
  have v2 := vn_ns (vn b)
  have hn := ns_pos_size h0
  have key : Calls Tryd.prog 55 #[.string a, .string b] w (RetDiv w (vn (ns (vn a)) / vn (ns (vn b))) (vn (ns (vn a)) % vn (ns (vn b))) true) := by
    rcases Nat.lt_or_ge 7 (ns (vn a)).size with h | h
    · exact rdiv_long a b _ _ w hTa hTb (by omega) (by omega) h (by rw [v2]; exact h0) hn
    · rcases Nat.lt_or_ge 7 (ns (vn b)).size with h' | h'
      · exact rdiv_wide a b _ _ w hTa hTb (by omega) (by omega) ⟨h, h'⟩ (by rw [v2]; exact h0) hn
      · exact rdiv_small a b _ _ w hTa hTb h h' (by rw [v2]; exact h0) hn
  rw [v1, v2] at key
  exact key
end Go.Proofs.YtbpdgfilffdegaaDoor
