/- Walks: augurref.Gcd, NatText, NatParse. -/
import Derived.Test.YtbpdgfilffdegaaDoorRefG
import Derived.Test.YtbpdgfilffdegaaDoorLawNatBack
set_option linter.unusedVariables false
set_option linter.unusedSimpArgs false
namespace Go.Proofs.YtbpdgfilffdegaaDoor
open Go.RowKit
open Go.IntWalk (wrap64_in)

set_option maxRecDepth 100000 in
set_option maxHeartbeats 1000000 in
theorem rgcd_any (a b : ByteArray) (w : World) (ha : a.size ≤ 137438953472) (hb : b.size ≤ 137438953472) :
    Calls Tryd.prog 52 #[.string a, .string b] w (RetNat w (Nat.gcd (vn a) (vn b))) := by
  have HT1 := fun w => rtrim_any a w (by unfold maxLen; omega)
  have HT2 := fun w => rtrim_any b w (by unfold maxLen; omega)
  have hsa := ns_size_le a
  have hsb := ns_size_le b
  have G1 := Lib.hid HT1
  have G2 := Lib.hid HT2
  generalize hg : Nat.gcd (vn a) (vn b) = g at *
  generalize vn a = x at *
  generalize vn b = y at *
  have G3 := Lib.hid hg
  clear HT1 HT2 hg
  go_enter Tryd.func52, Tryd.ntmps52
  go_wp2_with (fail)
  refine (G1.out _).mono ?_; rintro e w' ⟨rfl, rfl⟩
  go_wp2_with (fail)
  refine (G2.out _).mono ?_; rintro e w' ⟨rfl, rfl⟩
  go_wp2_with (fail)
  go_loopw [0, 1] (fun u v wr => ∃ p q : Nat, u = .string (ns p) ∧ v = .string (ns q) ∧ (ns p).size ≤ 137438953472 ∧ (ns q).size ≤ 137438953472 ∧ Nat.gcd p q = g ∧ Below w.heap.size w wr) (fun _ v _ => strVal v)
  case atStart => exact ⟨x, y, rfl, rfl, by omega, by omega, G3.out, Below.refl _ _⟩
  case round =>
    obtain ⟨p, q, rfl, rfl, hp, hq, hgc, hbr⟩ := hrel
    by_cases h0 : q = 0
    · subst h0
      have n1 := toList_nil (ns 0) (by rw [ns_zero]; rfl)
      have H : Hid (g = p) := by rw [Hid, ← hgc, Nat.gcd_zero_right]
      clear hgc
      go_wp2_with (fail)
      go_ret
      exact ⟨ret_str (by rw [H.out]), hbr⟩
    · have n1 := toList_ne (ns q) (ns_pos_size h0)
      have n2 := isEmpty_false (ns q) (ns_pos_size h0)
      have n3 : (!(ns q).toList.isEmpty) = true := by rw [n2]; rfl
      have hd := rdiv_any (ns p) (ns q) wr hp hq (by rw [vn_ns]; exact h0)
      rw [vn_ns, vn_ns] at hd
      have hlt : p % q < q := Nat.mod_lt _ (by omega)
      have hsz : (ns (p % q)).size ≤ (ns q).size := by rw [ns_size, ns_size]; exact nb_mono (by omega)
      have H : Hid (p % q < q ∧ Nat.gcd q (p % q) = g ∧ (ns (p % q)).size ≤ (ns q).size) := ⟨hlt, by rw [← hgc, Nat.gcd_comm q, ← Nat.gcd_rec, Nat.gcd_comm], hsz⟩
      have HD := Lib.hid hd
      clear hlt hgc hd h0 hsz
      go_wp2_with (fail)
      refine HD.out.mono ?_; rintro e w1 ⟨rfl, hb1⟩
      go_wp2_with (fail)
      refine ⟨⟨q, p % q, rfl, rfl, hq, ?_, H.out.2.1, hbr.trans (hb1.mono hbr.size)⟩, ?_⟩
      · have := H.out.2.2; omega
      · simp only [strVal, vn_ns]; exact H.out.1
theorem rparse_bad1 (s : ByteArray) (w : World) (h : s.size = 0) :
    Calls Tryd.prog 56 #[.string s] w (RetParse w 0 1) := by
  have h1 := toList_nil s h
  have H : Hid (ns 0 = ⟨#[]⟩) := ns_zero
  go_enter Tryd.func56, Tryd.ntmps56
  go_wp2_with fail
  go_ret2
  exact ⟨by rw [H.out]; rfl, Below.refl _ _⟩

set_option maxRecDepth 100000 in
theorem rparse_bad2 (s : ByteArray) (w : World) (hm : s.size ≤ maxLen) (h : 1 < s.size) (h0 : s[0].toNat = 48) :
    Calls Tryd.prog 56 #[.string s] w (RetParse w 0 1) := by
  have h1 := toList_ne s (by omega)
  have h2 := isEmpty_false s (by omega)
  have H : Hid (ns 0 = ⟨#[]⟩) := ns_zero
  have h3 : ((s[0].toNat : Int) == 48) = true := by rw [h0]; rfl
  unfold maxLen at hm
  clear h0
  go_enter Tryd.func56, Tryd.ntmps56
  go_wp2_with fail
  go_ret2
  exact ⟨by rw [H.out]; rfl, Below.refl _ _⟩

set_option maxRecDepth 100000 in
set_option maxHeartbeats 4000000 in
theorem rparse_more (s : ByteArray) (w : World) (hm : s.size ≤ maxLen) (h : 0 < s.size) (h0 : ¬ (1 < s.size ∧ s.data.toList.getD 0 0 = 48)) :
    Calls Tryd.prog 56 #[.string s] w (RetParse w (parseVal s.data.toList) (parseErr s.data.toList)) := by
  have h1 := toList_ne s (by omega)
  have h2 := isEmpty_false s (by omega)
  have hz : Hid (ns 0 = ⟨#[]⟩) := ns_zero
  have hne : s.data.toList ≠ [] := by intro e; have := bytes_size s; rw [e] at this; simp at this; omega
  have HP : Hid (parseErr s.data.toList = if s.data.toList.all isDig then (if 400 < s.size then 2 else 0) else 1) := by
    rw [Hid, parseErr, if_neg (by rw [bytes_size]; intro hh; rcases hh with hh | hh; exact hne hh; exact h0 hh), bytes_size]
  have h01 : 1 < s.size → ((s[0].toNat : Int) == 48) = false := fun hs => by
    refine beq_eq_false_iff_ne.2 fun e => h0 ⟨hs, ?_⟩
    rw [List.getD_eq_getElem?_getD, List.getElem?_eq_getElem (by rw [bytes_size]; exact h), ← bytes_get s 0 h]
    exact UInt8.toNat_inj.1 (by have : s[0].toNat = 48 := by omega
                                rw [Option.getD_some, this]; rfl)
  unfold maxLen at hm
  clear h0 hne
  by_cases hs1 : 1 < s.size
  all_goals
    first | (have h3 := h01 hs1; clear h01) | clear h01
    go_enter Tryd.func56, Tryd.ntmps56
    go_wp2_with fail
    go_loop [4] (fun q => ∃ k : Nat, k ≤ s.size ∧ q = .int .i64 k ∧ (s.data.toList.take k).all isDig = true) (fun q => s.size - (intOf q).toNat)
    case atStart => exact ⟨0, Nat.zero_le _, rfl, rfl⟩
    case round =>
      obtain ⟨k, hk, rfl, hall⟩ := hrel
      by_cases hlt : k < s.size
      · have htk : s.data.toList.take (k + 1) = s.data.toList.take k ++ [s[k]] := by
          rw [List.take_succ_eq_append_getElem (by rw [bytes_size]; exact hlt), bytes_get s k hlt]
        have HA : Hid (isDig s[k] = true → (s.data.toList.take (k + 1)).all isDig = true) := fun hd => by rw [htk, List.all_append, hall]; simp [hd]
        have HB : Hid (isDig s[k] = false → s.data.toList.all isDig = false) := fun hd => by
          rw [← Bool.not_eq_true]
          intro ha
          have := List.all_eq_true.1 ha s[k] (by rw [bytes_get s k hlt]; exact List.getElem_mem _)
          rw [hd] at this; cases this
        clear htk hall
        by_cases hdg : 48 ≤ s[k].toNat ∧ s[k].toNat ≤ 57
        · have HD : Hid (isDig s[k] = true) := by simp [Hid, isDig, hdg]
          obtain ⟨g1, g2⟩ := hdg
          go_wp2_with fail
          exact ⟨⟨k + 1, by omega, by go_num, HA.out HD.out⟩, by simp [intOf]; omega⟩
        · have HD : Hid (parseErr s.data.toList = 1) := by
            rw [Hid, HP.out, HB.out (by simp [isDig]; omega)]; rfl
          rcases Nat.lt_or_ge s[k].toNat 48 with g1 | g1
          · clear hdg
            go_wp2_with fail
            go_ret2
            exact ⟨by rw [parseVal, HD.out]; simp only [Nat.one_ne_zero, if_false]; rw [hz.out]; rfl, Below.refl _ _⟩
          · have g2 : 57 < s[k].toNat := by omega
            clear hdg
            go_wp2_with fail
            go_ret2
            exact ⟨by rw [parseVal, HD.out]; simp only [Nat.one_ne_zero, if_false]; rw [hz.out]; rfl, Below.refl _ _⟩
      · obtain rfl : k = s.size := by omega
        rw [List.take_of_length_le (by rw [bytes_size]; exact Nat.le_refl _)] at hall
        by_cases h400 : 400 < s.size
        · have HD : Hid (parseErr s.data.toList = 2) := by rw [Hid, HP.out, if_pos hall, if_pos h400]
          clear hall
          go_wp2_with fail
          all_goals go_ret2
          all_goals exact ⟨by rw [parseVal, HD.out, if_neg (by decide), hz.out]; rfl, Below.refl _ _⟩
        · have HD : Hid (parseErr s.data.toList = 0 ∧ s.data.toList.all isDig = true) := ⟨by rw [HP.out, if_pos hall, if_neg h400], hall⟩
          clear hall
          have hb400 : decide ((400 : Int) < (s.size : Int)) = false := by simp; omega
          go_wp2_with fail
          go_loopw [5, 6] (fun u q wr => ∃ (k : Nat), q = .int .i64 k ∧ k ≤ s.size ∧ u = .string (ns (dval (s.data.toList.take k))) ∧ Below w.heap.size w wr) (fun _ q _ => s.size - (intOf q).toNat)
          case atStart => exact ⟨0, rfl, Nat.zero_le _, by rw [← hz.out]; rfl, Below.refl _ _⟩
          case round =>
            obtain ⟨k, rfl, hk, rfl, hbr⟩ := hrel
            by_cases hlt : k < s.size
            · have hdt := dval_take s k hlt
              have hdg : 48 ≤ s[k].toNat ∧ s[k].toNat ≤ 57 := by
                have := List.all_eq_true.1 HD.out.2 s[k] (by rw [bytes_get s k hlt]; exact List.getElem_mem _)
                simpa [isDig] using this
              have hsz : (ns (dval (s.data.toList.take k))).size ≤ k := by
                rw [ns_size]
                refine nb_length_lt (Nat.lt_of_lt_of_le (dval_lt _) (Nat.pow_le_pow_right (by omega) ?_))
                rw [List.length_take]; exact Nat.min_le_left _ _
              have hm1 := fun w => rmul_any (ns (dval (s.data.toList.take k))) ⟨#[10]⟩ w (by omega) (by show (1 : Nat) ≤ _; omega)
              have hv10 : vn ⟨#[10]⟩ = 10 := by decide
              rw [vn_ns, hv10] at hm1
              have ho := fun w => rof_any ((s[k].toNat - 48 : Nat) : Int) w (by omega) (by omega)
              rw [Int.toNat_natCast] at ho
              have hsz2 : (ns (dval (s.data.toList.take k) * 10)).size ≤ k + 1 := by
                rw [ns_size] at hsz ⊢
                refine nb_length_lt ?_
                have := lt_pow_nb (dval (s.data.toList.take k))
                have h2 := Nat.lt_of_lt_of_le this (Nat.pow_le_pow_right (show 0 < 256 by omega) hsz)
                rw [Nat.pow_succ]; omega
              have hsz3 : (ns (s[k].toNat - 48)).size ≤ 1 := by rw [ns_size]; exact nb_length_lt (by omega)
              have ha := fun w => radd_any (ns (dval (s.data.toList.take k) * 10)) (ns (s[k].toNat - 48)) w (by omega) (by omega)
              rw [vn_ns, vn_ns, ← hdt] at ha
              have hsub : ((s[k].toNat : Int) - 48) = ((s[k].toNat - 48 : Nat) : Int) := by omega
              generalize hn1 : dval (s.data.toList.take (k + 1)) = n1 at *
              generalize dval (s.data.toList.take k) = n0 at *
              have G1 := Lib.hid hm1
              have G2 := Lib.hid ho
              have G3 := Lib.hid ha
              have HN := Lib.hid hn1
              clear hn1 hm1 ho ha hdt hv10
              go_wp2_with fail
              refine (G1.out _).mono ?_; rintro e w1 ⟨rfl, hb1⟩
              go_wp2_with fail
              refine (G2.out _).mono ?_; rintro e w2 ⟨rfl, hb2⟩
              go_wp2_with fail
              refine (G3.out _).mono ?_; rintro e w3 ⟨rfl, hb3⟩
              go_wp2_with fail
              exact ⟨⟨k + 1, rfl, by omega, by rw [HN.out], ((hbr.trans (hb1.mono hbr.size)).trans (hb2.mono (Nat.le_trans hbr.size hb1.size))).trans (hb3.mono (Nat.le_trans (Nat.le_trans hbr.size hb1.size) hb2.size))⟩, by simp [intOf]; omega⟩
            · obtain rfl : k = s.size := by omega
              rw [List.take_of_length_le (by rw [bytes_size]; exact Nat.le_refl _)]
              have HV : Hid (parseVal s.data.toList = dval s.data.toList) := by rw [Hid, parseVal, if_pos HD.out.1]
              generalize dval s.data.toList = n0 at *
              go_wp2_with fail
              go_ret2
              exact ⟨by rw [HV.out, HD.out.1]; rfl, hbr⟩

theorem rparse_any (s : ByteArray) (w : World) (hm : s.size ≤ maxLen) :
    Calls Tryd.prog 56 #[.string s] w (RetParse w (parseVal s.data.toList) (parseErr s.data.toList)) := by
  by_cases h : s.size = 0
  · have hl : s.data.toList = [] := List.eq_nil_of_length_eq_zero (by rw [bytes_size]; exact h)
    have e : parseErr s.data.toList = 1 := by rw [parseErr, if_pos (.inl hl)]
    rw [parseVal, e, if_neg (by decide)]
    exact rparse_bad1 s w h
  · by_cases h1 : 1 < s.size ∧ s.data.toList.getD 0 0 = 48
    · have e : parseErr s.data.toList = 1 := by rw [parseErr, if_pos (.inr (by rw [bytes_size]; exact h1))]
      rw [parseVal, e, if_neg (by decide)]
      refine rparse_bad2 s w hm h1.1 ?_
      have := h1.2
      rw [List.getD_eq_getElem?_getD, List.getElem?_eq_getElem (by rw [bytes_size]; omega), ← bytes_get s 0 (by omega), Option.getD_some] at this
      rw [this]; rfl
    · exact rparse_more s w hm (by omega) h1

set_option maxRecDepth 100000 in
set_option maxHeartbeats 1000000 in
theorem rtext_any (a : ByteArray) (w : World) (ha : a.size ≤ 137438953472) :
    Calls Tryd.prog 53 #[.string a] w (RetStr w (textOf (vn a))) := by
  have HT := fun w => rtrim_any a w (by unfold maxLen; omega)
  have hsa := ns_size_le a
  have hdl := dec_le (vn a) _ (vn_lt a)
  generalize vn a = x at *
  have G1 := Lib.hid HT
  clear HT
  by_cases hx : x = 0
  · subst hx
    have n1 := toList_nil (ns 0) (by rw [ns_zero]; rfl)
    have H : Hid (textOf 0 = [48]) := rfl
    go_enter Tryd.func53, Tryd.ntmps53
    go_wp2_with fail
    refine (G1.out _).mono ?_; rintro e w' ⟨rfl, rfl⟩
    go_wp2_with fail
    go_ret
    exact ⟨by rw [H.out]; rfl, Below.refl _ _⟩
  · have n1 := toList_ne (ns x) (ns_pos_size hx)
    have n2 := isEmpty_false (ns x) (ns_pos_size hx)
    have H : Hid (textOf x = dec x) := by rw [Hid, textOf, if_neg hx]
    rw [H.out]
    clear hx
    go_enter Tryd.func53, Tryd.ntmps53
    go_wp2_with fail
    refine (G1.out _).mono ?_; rintro e w' ⟨rfl, rfl⟩
    go_wp2_with fail
    go_loopw [0, 3] (fun u v wr => ∃ (q : Nat) (t : List UInt8), u = .string (ns q) ∧ (ns q).size ≤ 137438953472 ∧ v = .string ⟨t.toArray⟩ ∧ dec x = dec q ++ t ∧ Below w.heap.size w wr) (fun u _ _ => vn (strOf u))
    case atStart => exact ⟨x, [], rfl, by omega, rfl, by simp, Below.refl _ _⟩
    case round =>
      obtain ⟨q, t, rfl, hq, rfl, hd, hbr⟩ := hrel
      clear n1 n2
      by_cases h0 : q = 0
      · subst h0
        have n1 := toList_nil (ns 0) (by rw [ns_zero]; rfl)
        have HD : Hid (dec x = t) := by rw [Hid, hd, dec_zero]; rfl
        clear hd
        go_wp2_with fail
        go_ret
        exact ⟨by rw [HD.out]; rfl, hbr⟩
      · have n1 := toList_ne (ns q) (ns_pos_size h0)
        have n2 := isEmpty_false (ns q) (ns_pos_size h0)
        have n3 : (!(ns q).toList.isEmpty) = true := by rw [n2]; rfl
        have hv10 : vn ⟨#[10]⟩ = 10 := by decide
        have hdv := rdiv_any (ns q) ⟨#[10]⟩ wr hq (by show (1 : Nat) ≤ _; omega) (by rw [hv10]; omega)
        rw [vn_ns, hv10] at hdv
        have hdg := fun w => digit_any (ns (q % 10)) 0 w (by have := nb_length_lt (n := q % 10) (k := 1) (by omega); rw [ns_size]; unfold maxLen; omega) (by omega)
        rw [vn_ns, Nat.pow_zero, Nat.div_one, Nat.mod_eq_of_lt (a := q % 10) (by omega)] at hdg
        have hdec := dec_pos q h0
        have hr : q % 10 < 10 := Nat.mod_lt _ (by omega)
        have hqs : (ns (q / 10)).size ≤ (ns q).size := by rw [ns_size, ns_size]; exact nb_mono (by omega)
        have HK : Hid (dec x = dec q ++ t ∧ dec q = dec (q / 10) ++ [UInt8.ofNat (48 + q % 10)] ∧ q / 10 < q ∧ (ns (q / 10)).size ≤ (ns q).size) := ⟨hd, hdec, by omega, hqs⟩
        generalize q / 10 = p at *
        generalize q % 10 = r at *
        have hcv := fun w' => conv_bytes (P := Tryd.prog) (l := [UInt8.ofNat (48 + r)]) (SliceAt.lit w' 5 1 1 #[.int .u8 ((UInt8.ofNat (48 + r)).toNat : Int)] rfl (by decide)) 130 5 9 Tryd.underlying130 Tryd.underlying5 Tryd.underlying9
        have ec : ((UInt8.ofNat (48 + r)).toNat : Int) = 48 + (r : Int) := by simp; omega
        simp only [ec] at hcv
        clear ec
        generalize hx : UInt8.ofNat (48 + r) = c at hcv HK
        have hlx : (⟨#[c]⟩ : ByteArray).size = 1 := rfl
        have hlt : (⟨t.toArray⟩ : ByteArray).size = t.length := List.size_toArray
        have htl : t.length ≤ 3 * a.size := by rw [hd, List.length_append] at hdl; omega
        clear hdl
        have G2 := Lib.hid hdv
        have G3 := Lib.hid hdg
        clear hdv hdg hdec hqs hd hv10 hx h0
        go_wp2_with fail
        refine G2.out.mono ?_; rintro e w1 ⟨rfl, hb1⟩
        go_wp2_with fail
        refine (G3.out _).mono ?_; rintro e w' ⟨rfl, rfl⟩
        go_wp2_with fail
        obtain ⟨k1, k2, k3, k4⟩ := HK.out
        refine ⟨⟨p, c :: t, rfl, by omega, by apply congrArg; apply bytes_ext; simp, by rw [k1, k2]; simp, (hbr.trans (hb1.mono hbr.size)).alloc (Nat.le_trans hbr.size hb1.size) _⟩, ?_⟩
        simp only [strOf, vn_ns]; exact k3
end Go.Proofs.YtbpdgfilffdegaaDoor
