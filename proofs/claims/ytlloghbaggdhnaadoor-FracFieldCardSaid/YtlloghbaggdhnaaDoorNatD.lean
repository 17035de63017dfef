/- Walks: limbs.trim, nat.split. -/
import Derived.Test.YtlloghbaggdhnaaDoorNatC
import Derived.Test.YtlloghbaggdhnaaDoorLimbP
set_option linter.unusedVariables false
set_option linter.unusedSimpArgs false
namespace Go.Proofs.YtlloghbaggdhnaaDoor
open Go.RowKit

/-- A slice of limbs. -/
def Limbs (w : World) (v : Value) (l : List Nat) : Prop := SliceAt w v 1 (limbVals l) ∧ Lim l
theorem Limbs.ext {w w' : World} {v : Value} {l : List Nat} (h : Limbs w v l) (hb : Below w.heap.size w w') : Limbs w' v l := ⟨h.1.ext hb, h.2⟩

def RetTrim (w : World) (v : Value) (l : List Nat) (e : Ending) (w' : World) : Prop := ∃ v', e = .returned v' ∧ Limbs w v' (ltrim l) ∧ (∀ B, FreshV B v → FreshV B v') ∧ w = w'

theorem zeroU32 : ∀ w, (Go.sizeOf 148).run Tryd.prog w = .ok 1 w := fun _ => by kernel_rfl

set_option maxHeartbeats 400000 in
theorem ltrim_any (l : List Nat) (v : Value) (w : World) (h : Limbs w v l) :
    Calls Tryd.prog 170 #[v] w (RetTrim w v l) := by
  obtain ⟨h, hlim⟩ := h
  obtain ⟨v0, HV0⟩ : ∃ v0, Hid (v = v0) := ⟨v, rfl⟩
  go_enter Tryd.func170, Tryd.ntmps170
  go_wp2
  go_loop [0] (fun v => ∃ k : Nat, k ≤ l.length ∧ SliceAt w v 1 (limbVals (l.take k)) ∧ (∀ B, FreshV B v0 → FreshV B v) ∧ ltrim (l.take k) = ltrim l) sliceLen
  case atStart => exact ⟨l.length, Nat.le_refl _, by simpa using h, fun B hB => by rw [HV0.out]; exact hB, by simp⟩
  case round =>
    clear h
    obtain ⟨k, hk, hs, hfr, ht⟩ := hrel
    have HF := Lib.hid hfr; clear hfr
    have HS := Lib.hid hs
    obtain ⟨a, cap, rfl, hnc, hcm, hcell⟩ := SliceAt.open1 hs
    have hlk : (l.take k).length = k := by rw [List.length_take]; omega
    rw [hlk] at hs hnc hcell HS HF ⊢
    unfold maxLen at hcm
    by_cases h0 : 0 < k
    · obtain ⟨v', hv', hs', hf'⟩ := slice_h (P := Tryd.prog) (t := 146) (e := 148) (size := 1) (n := k) Tryd.underlying146 zeroU32 hs (by rw [limbVals, List.length_map, hlk]; omega) (by omega) (k - 1) (by omega)
      obtain ⟨b, off, rfl, hc⟩ := hcell (k - 1) (by omega)
      have hx := take_snoc l (k - 1) (by omega)
      rw [show k - 1 + 1 = k by omega] at hx
      have hxx : (l.take k).getD (k - 1) default = l.getD (k - 1) default := by rw [List.getD_eq_getElem?_getD, List.getElem?_take_of_lt (by omega), ← List.getD_eq_getElem?_getD]
      rw [hxx] at hc
      generalize l.getD (k - 1) default = x at hx hc
      have H : Hid (l.take k = l.take (k - 1) ++ [x] ∧ ltrim (l.take k) = ltrim l ∧ SliceAt w v' 1 (limbVals (l.take (k - 1)))) := ⟨hx, ht, by
        rw [Nat.mul_one, limbVals, ← List.map_take, List.take_take, Nat.min_eq_left (by omega)] at hs'; exact hs'⟩
      have HF2 : Hid (∀ B, FreshV B v0 → FreshV B v') := fun B hB => hf' B (HF.out B hB)
      clear hf'
      clear hcell hx hxx ht hs hs' hlk
      have hv : (∀ w1, (Instr.slice 146 (.slice (some ⟨b, off, none⟩) k cap) none (some (.int .i64 ((k : Int) - 1))) none).run Tryd.prog w1 = .ok v' w1) := by
        have e : ((k : Int) - 1) = ((k - 1 : Nat) : Int) := by omega
        rw [e]; exact hv'
      clear hv'
      go_wp2
      · have hq : ((x : Int) == 0) = true := by assumption
        have hx0 : x = 0 := by simpa using hq
        obtain ⟨h1, h2, h3⟩ := H.out
        rw [hx0] at h1
        rw [h1, ltrim_snoc_zero] at h2
        have := h3.len
        refine ⟨⟨k - 1, by omega, h3, HF2.out, h2⟩, ?_⟩
        rw [limbVals, List.length_map, List.length_take] at this
        simp only [sliceLen] at this ⊢; omega
      · have hq : ((x : Int) == 0) = false := by assumption
        have hx0 : x ≠ 0 := by simpa using hq
        obtain ⟨h1, h2, h3⟩ := H.out
        go_ret
        refine ⟨_, rfl, ⟨?_, lim_ltrim hlim⟩, by rw [HV0.out]; exact HF.out, rfl⟩
        rw [← h2, h1, ltrim_snoc _ _ hx0, ← h1]
        exact HS.out
    · obtain rfl : k = 0 := by omega
      clear hcell
      go_wp2
      go_ret
      refine ⟨_, rfl, ⟨?_, lim_ltrim hlim⟩, by rw [HV0.out]; exact HF.out, rfl⟩
      rw [← ht]
      exact HS.out

def RetLimbs (w : World) (n : Nat) (e : Ending) (w' : World) : Prop := ∃ v l, e = .returned v ∧ Limbs w' v l ∧ Can l ∧ lv l = n ∧ FreshV w.heap.size v ∧ Below w.heap.size w w'

theorem el_limbs : ElemT Tryd.prog 146 148 1 4 (.int .u32 0) := ElemT.mk' Tryd.underlying146 (by kernel_rfl) rfl (by decide)

theorem nv_take_lt3 (t : List UInt8) (k : Nat) (h : k < t.length) (h4 : t.length ≤ 4) : nv (t.take k) < 16777216 := by
  have := nv_lt (t.take k)
  have hl : (t.take k).length ≤ 3 := by rw [List.length_take]; omega
  have := Nat.pow_le_pow_right (n := 256) (by omega) hl
  omega

set_option maxRecDepth 100000 in
set_option maxHeartbeats 1000000 in
theorem split_any (s : ByteArray) (w : World) (hs : s.size ≤ 1099511627776) :
    Calls Tryd.prog 131 #[.string s] w (RetLimbs w (vn s)) := by
  go_enter Tryd.func131, Tryd.ntmps131
  go_wp2
  go_loopw [3, 4] (fun v e wr => ∃ (i : Nat) (ls : List Nat) (z : Int), wr.ownsRow w.heap.size 148 1 v i (limbVals ls) ∧ ls.length = i ∧ Lim ls ∧ e = .int .i64 z ∧ z = (s.size : Int) - 4 * i ∧ 4 * i ≤ s.size + 3 ∧ lv ls = nv (s.data.toList.drop (s.size - 4 * i)) ∧ Below w.heap.size w wr) (fun _ e _ => (intOf e).toNat)
  case atStart => exact ⟨0, [], _, World.ownsRow_nil _ _ _ _, rfl, lim_nil, rfl, by omega, by omega, by rw [List.drop_of_length_le (by rw [bytes_size]; omega)]; rfl, Below.refl _ _⟩
  case round =>
    obtain ⟨i, ls, z, hown, hi, hlim, rfl, hz, hi4, hlv, hb⟩ := hrel
    by_cases h0 : 0 < z
    · obtain ⟨E, rfl⟩ := Int.eq_ofNat_of_zero_le (show 0 ≤ z by omega)
      have hE : E + 4 * i = s.size := by omega
      have hEs : E ≤ s.size := by omega
      obtain ⟨t, ht⟩ : ∃ t : ByteArray, t = s.extract (E - 4) E := ⟨_, rfl⟩
      have htl : t.data.toList = (s.data.toList.take E).drop (E - 4) := by
        rw [ht, ByteArray.data_extract, Array.toList_extract, List.extract_eq_take_drop, List.drop_take]
      have hn := chunk_lt s.data.toList E
      rw [← htl] at hn
      have hts : t.size ≤ 4 := by rw [← bytes_size, htl, List.length_drop, List.length_take]; omega
      have hstep := split_step s.data.toList t.data.toList ls E i (by rw [bytes_size]; exact hE) hi (by rw [hlv, show s.size - 4 * i = E by omega]) htl
      obtain ⟨v2, w2, hcv, hs2, hb2⟩ := conv_string (P := Tryd.prog) wr t (by unfold maxLen; omega) 22 156 5 Tryd.underlying22 Tryd.underlying156 Tryd.underlying5
      obtain ⟨a2, cap2, rfl, _, hcap2, hcell2⟩ := SliceAt.open1 (α := UInt8) hs2
      rw [bytes_size] at hcell2 hcv
      have hslA : 4 < E → (∀ w1, (Instr.slice 22 (.string s) (some (.int .i64 ((E : Int) - 4))) (some (.int .i64 (E : Int))) none).run Tryd.prog w1 = .ok (.string t) w1) := by
        intro h4 w1
        rw [show ((E : Int) - 4) = ((E - 4 : Nat) : Int) by omega, str_lh Tryd.underlying22 s _ _ (by omega) hEs, ht]
      have hslB : E ≤ 4 → (∀ w1, (Instr.slice 22 (.string s) (some (.int .i64 0)) (some (.int .i64 (E : Int))) none).run Tryd.prog w1 = .ok (.string t) w1) := by
        intro h4 w1
        have := str_lh (P := Tryd.prog) Tryd.underlying22 s 0 E (by omega) hEs w1
        rw [ht, show E - 4 = 0 by omega]; exact this
      have H : Hid (wr.ownsRow w.heap.size 148 1 u3 i (limbVals ls) ∧ ls.length = i ∧ (E : Int) = (s.size : Int) - 4 * i ∧ E + 4 * i = s.size ∧ lv (ls ++ [nv t.data.toList]) = nv (s.data.toList.drop (E - 4)) ∧ Below wr.heap.size wr w2) := ⟨hown, hi, hz, hE, hstep, hb2⟩
      clear hown hi hlv hz hE hstep hs2 htl ht hb2
      by_cases h4 : 4 < E
      all_goals
        first | (have hsl := hslA h4; clear hslA hslB) | (have hsl := hslB (by omega); clear hslA hslB)
        go_wp2
        go_loop [5, 22] (fun n q => ∃ k : Nat, k ≤ t.size ∧ q = .int .i64 k ∧ n = .int .u32 (nv (t.data.toList.take k))) (fun _ q => t.size - (intOf q).toNat)
        case atStart => exact ⟨0, by omega, rfl, rfl⟩
        case round =>
          obtain ⟨k, hk, rfl, rfl⟩ := hrel
          clear hsl hcv
          by_cases hlt : k < t.size
          · obtain ⟨b2, off2, rfl, hc2⟩ := hcell2 k hlt
            clear hcell2
            have hsu := nv_take_succ t k hlt
            have h3 := nv_take_lt3 t.data.toList k (by rw [bytes_size]; exact hlt) (by rw [bytes_size]; exact hts)
            have hge : t.data.toList.getD k default = t[k] := by rw [bytes_get t k hlt, List.getD_eq_getElem?_getD, List.getElem?_eq_getElem (by rw [bytes_size]; exact hlt)]; rfl
            rw [hge] at hc2
            have hb8 : t[k].toNat < 256 := t[k].toNat_lt
            generalize nv (t.data.toList.take k) = m at *
            generalize t[k] = y at *
            have HS := Lib.hid hsu; clear hsu hge
            go_wp2
            refine ⟨⟨k + 1, by omega, by go_num, ?_⟩, by simp [intOf]; omega⟩
            rw [HS.out, u32_or8 m _ hb8 h3]
          · obtain rfl : k = t.size := by omega
            clear hcell2
            rw [List.take_of_length_le (by rw [bytes_size]; exact Nat.le_refl _)]
            obtain ⟨hown, hi, hz, hE, hstep, hb2⟩ := H.out
            have hown2 : w2.ownsRow w.heap.size 148 1 u3 i (limbVals ls) := hown.kept (row := none) ⟨hb2.os, hb2.tape, hb2.output, hb2.size, fun k hk _ => hb2.block k hk⟩ (by cases hv : u3.ownBlock <;> simp)
            have hsz2 : w.heap.size ≤ w2.heap.size := Nat.le_trans hb.size hb2.size
            have hb3 : Below w.heap.size w w2 := hb.trans (hb2.mono hb.size)
            clear hown hi hz hE hstep hb2
            generalize hm : nv t.data.toList = m at *
            have HM := Lib.hid hm; clear hm
            go_wp2_with (at_builtin; go_must (refine wpList_app rfl _ _ 146 rfl w.heap.size el_limbs _ _ _ rfl (hown2.alloc _) _ rfl 1 [.int .u32 m] (SliceAt.lit _ _ 1 1 _ rfl (by decide)) rfl (one_int _ _) (by omega) (by decide) (le_alloc hsz2 _) ?_); intro v' w' hown' hg)
            obtain ⟨hown, hi, hz, hE, hstep, hb2⟩ := H.out
            have hbf := (hb3.alloc hsz2 (Obj.cells #[Value.int IntKind.u32 ↑m] 148)).grown hg (le_alloc hsz2 _) (fun k hk => (hown2.lt k hk).1)
            refine ⟨⟨i + 1, ls ++ [m], _, by simpa [limbVals] using hown', by simp [hi], lim_append.2 ⟨hlim, lim_cons.2 ⟨hn, lim_nil⟩⟩, rfl, by omega, by omega, ?_, hbf⟩, by simp [intOf]; omega⟩
            rw [hstep, show s.size - 4 * (i + 1) = E - 4 by omega]
    · have hL : Limbs wr u3 ls := ⟨SliceAt.owned hown, hlim⟩
      have H : Hid (lv ls = vn s) := by unfold Hid vn; rw [hlv, show s.size - 4 * i = 0 by omega, List.drop_zero]
      have HF : Hid (FreshV w.heap.size u3) := FreshV.owned hown
      clear hown hi hz hlv
      go_wp2_with (go_at_call 170; refine (ltrim_any _ _ _ hL).mono ?_; rintro e w' ⟨v', rfl, hl', hf', rfl⟩)
      go_ret
      exact ⟨_, _, rfl, hl', can_ltrim _, by rw [lv_ltrim]; exact H.out, hf' _ HF.out, hb⟩
end Go.Proofs.YtlloghbaggdhnaaDoor
