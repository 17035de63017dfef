/- Walks: nat.Add. -/
import Derived.Test.YtlloghbaggdhnaaDoorNatE
set_option linter.unusedVariables false
set_option linter.unusedSimpArgs false
namespace Go.Proofs.YtlloghbaggdhnaaDoor
open Go.RowKit

theorem Limbs.op {w : World} {v : Value} {l : List Nat} (h : Limbs w v l) : ∃ a cap, v = .slice a l.length cap ∧ l.length ≤ cap ∧ cap ≤ maxLen ∧ ∀ i, i < l.length → (∃ b off, a = some ⟨b, off, none⟩ ∧ w.cell? ⟨b, off + i, none⟩ = some (.int .u32 (l.getD i default : Nat))) ∧ l.getD i default < 4294967296 := by
  obtain ⟨a, cap, h1, h2, h3, h4⟩ := SliceAt.open1 h.1
  exact ⟨a, cap, h1, h2, h3, fun i hi => ⟨h4 i hi, lim_get h.2 i default hi⟩⟩

set_option maxRecDepth 100000 in
set_option maxHeartbeats 2000000 in
theorem add_any (s t : ByteArray) (w : World) (hs : s.size ≤ 274877906944) (ht : t.size ≤ 274877906944) :
    Calls Tryd.prog 71 #[.string s, .string t] w (RetNat w (vn s + vn t)) := by
  have hvs := vn_lt s
  have hvt := vn_lt t
  go_enter Tryd.func71, Tryd.ntmps71
  go_wp2_with fail
  refine (split_any s w (by omega)).mono ?_
  rintro e w1 ⟨v1, l, rfl, hl, hcl, hvl, _, hb1⟩
  go_wp2_with fail
  refine (split_any t w1 (by omega)).mono ?_
  rintro e w2 ⟨v2, m, rfl, hm, hcm, hvm, _, hb2⟩
  have hl2 := hl.ext hb2
  have hll := limbs_le hcl hvl hvs
  have hml := limbs_le hcm hvm hvt
  have H : Hid (lv l + lv m = vn s + vn t) := by rw [Hid, hvl, hvm]
  have hb : Below w.heap.size w w2 := hb1.trans (hb2.mono hb1.size)
  clear hl hcl hvl hcm hvm hvs hvt hb1 hb2
  obtain ⟨a1, p1, rfl, hnc1, hcm1, hcl⟩ := hl2.op
  obtain ⟨a2, p2, rfl, hnc2, hcm2, hcm⟩ := hm.op
  clear hl2 hm
  unfold maxLen at hcm1 hcm2
  by_cases hsw : l.length < m.length
  · have hmk := make_cap el_limbs w2 .i64 .i64 (m.length + 1) (by omega) (by decide)
    rw [show ((m.length + 1 : Nat) : Int) = (m.length : Int) + 1 by omega] at hmk
    have hown0 := World.ownsRow_made (base := w2.heap.size) (e := 148) (size := 1) w2 (madeCells #[Value.int IntKind.u32 0] (m.length + 1)) (m.length + 1) (Nat.le_refl _) (by unfold maxLen; omega) (by simp [size_madeCells])
    have hb20 := (Below.refl w2.heap.size w2).alloc (Nat.le_refl _) (.cells (madeCells #[Value.int IntKind.u32 0] (m.length + 1)) 148)
    go_wp2
    go_loopw [7, 8, 28] (fun o c q wr => ∃ (k cc : Nat) (os : List Nat), q = .int .i64 k ∧ k ≤ m.length ∧ c = .int .u64 cc ∧ cc ≤ 1 ∧ wr.ownsRow w2.heap.size 148 1 o k (limbVals os) ∧ os.length = k ∧ Lim os ∧ lv os + 4294967296 ^ k * cc = lv (m.take k) + lv (l.take k) ∧ Below w2.heap.size w2 wr) (fun _ _ q _ => m.length - (intOf q).toNat)
    case atStart => exact ⟨0, 0, [], rfl, Nat.zero_le _, rfl, by omega, hown0, rfl, lim_nil, by simp [lv_nil], hb20⟩
    case round =>
      obtain ⟨k, cc, os, rfl, hk, rfl, hcc, hown, ho, hlo, hlv, hb2r⟩ := hrel
      have hszr : w2.heap.size ≤ wr.heap.size := hb2r.size
      clear hmk hown0 hb20
      by_cases hlt : k < m.length
      · obtain ⟨⟨b1, o1, rfl, hc1⟩, hx1⟩ := hcm k hlt
        have hc1r := (ext_cell hb2r _ (by rw [hc1]; simp)).trans hc1
        have hst := fun y hy => add_step m l os k cc y hlt ho hy hlv
        by_cases hlm : k < l.length
        · obtain ⟨⟨b2, o2, rfl, hc2⟩, hx2⟩ := hcl k hlm
          have hc2r := (ext_cell hb2r _ (by rw [hc2]; simp)).trans hc2
          have hst2 := hst (l.getD k default) (by rw [if_pos hlm])
          generalize m.getD k default = x at *
          generalize l.getD k default = y at *
          have HH : Hid (lv (os ++ [(cc + x + y) % 4294967296]) + 4294967296 ^ (k + 1) * ((cc + x + y) / 4294967296) = lv (m.take (k + 1)) + lv (l.take (k + 1)) ∧ os.length = k) := ⟨hst2, ho⟩
          clear hst2 hst ho hlv hcm hcl hc1 hc2
          go_wp2_with (at_builtin; go_must (refine wpList_app rfl _ _ 146 rfl w2.heap.size el_limbs _ _ _ rfl (hown.alloc _) _ rfl 1 [.int .u32 ((↑cc + ↑x + ↑y) % 4294967296)] (SliceAt.lit _ _ 1 1 _ rfl (by decide)) rfl (one_int _ _) (by omega) (by decide) (le_alloc hszr _) ?_); intro v' w' hown' hg)
          have hbf2 := (hb2r.alloc hb2r.size (Obj.cells #[Value.int IntKind.u32 ((↑cc + ↑x + ↑y) % 4294967296)] 148)).grown hg (le_alloc hb2r.size _) (fun k hk => (fun k hk => (hown.lt k hk).1) k hk)
          obtain ⟨hH, hoH⟩ := HH.out
          refine ⟨⟨k + 1, (cc + x + y) / 4294967296, os ++ [(cc + x + y) % 4294967296], by go_num, by omega, by go_num, by omega, by simpa [limbVals] using hown', by simp [hoH], lim_append.2 ⟨hlo, lim_cons.2 ⟨by omega, lim_nil⟩⟩, hH, hbf2⟩, by simp [intOf]; omega⟩
        · have hst2 := hst 0 (by rw [if_neg hlm])
          generalize m.getD k default = x at *
          have HH : Hid (lv (os ++ [(cc + x) % 4294967296]) + 4294967296 ^ (k + 1) * ((cc + x) / 4294967296) = lv (m.take (k + 1)) + lv (l.take (k + 1)) ∧ os.length = k) := ⟨hst2, ho⟩
          clear hst2 hst ho hlv hcm hcl hc1
          go_wp2_with (at_builtin; go_must (refine wpList_app rfl _ _ 146 rfl w2.heap.size el_limbs _ _ _ rfl (hown.alloc _) _ rfl 1 [.int .u32 ((↑cc + ↑x) % 4294967296)] (SliceAt.lit _ _ 1 1 _ rfl (by decide)) rfl (one_int _ _) (by omega) (by decide) (le_alloc hszr _) ?_); intro v' w' hown' hg)
          have hbf2 := (hb2r.alloc hb2r.size (Obj.cells #[Value.int IntKind.u32 ((↑cc + ↑x) % 4294967296)] 148)).grown hg (le_alloc hb2r.size _) (fun k hk => (fun k hk => (hown.lt k hk).1) k hk)
          obtain ⟨hH, hoH⟩ := HH.out
          refine ⟨⟨k + 1, (cc + x) / 4294967296, os ++ [(cc + x) % 4294967296], by go_num, by omega, by go_num, by omega, by simpa [limbVals] using hown', by simp [hoH], lim_append.2 ⟨hlo, lim_cons.2 ⟨by omega, lim_nil⟩⟩, hH, hbf2⟩, by simp [intOf]; omega⟩
      · obtain rfl : k = m.length := by omega
        rw [List.take_of_length_le (Nat.le_refl _), List.take_of_length_le (by omega)] at hlv
        have HH : Hid (lv (os ++ [cc]) = vn s + vn t ∧ os.length = m.length) := ⟨by rw [lv_snoc, ho, hlv]; have := H.out; omega, ho⟩
        clear hcm hcl hlv ho
        go_wp2_with (first
          | (at_builtin; go_must (refine wpList_app rfl _ _ 146 rfl w2.heap.size el_limbs _ _ _ rfl (hown.alloc _) _ rfl 1 [.int .u32 (cc : Int)] (SliceAt.lit _ _ 1 1 _ rfl (by decide)) rfl (one_int _ _) (by omega) (by decide) (le_alloc hszr _) ?_); intro v' w' hown' hg)
          | (go_at_call 132; go_must (refine (lnat_any (os ++ [cc]) _ _ ⟨SliceAt.owned (by simpa [limbVals] using hown'), lim_append.2 ⟨hlo, lim_cons.2 ⟨by omega, lim_nil⟩⟩⟩ (by rw [List.length_append, HH.out.2]; simp; omega)).mono ?_); rintro e w'' ⟨rfl, hb3⟩))
        have hbf := (hb2r.alloc hszr (Obj.cells #[Value.int IntKind.u32 (cc : Int)] 148)).grown hg (le_alloc hszr _) (fun k hk => (hown.lt k hk).1)
        go_ret
        exact ⟨ret_str (by rw [HH.out.1]), (hb.trans (hbf.mono hb.size)).trans (hb3.mono (Nat.le_trans hb.size hbf.size))⟩
  · have hmk := make_cap el_limbs w2 .i64 .i64 (l.length + 1) (by omega) (by decide)
    rw [show ((l.length + 1 : Nat) : Int) = (l.length : Int) + 1 by omega] at hmk
    have hown0 := World.ownsRow_made (base := w2.heap.size) (e := 148) (size := 1) w2 (madeCells #[Value.int IntKind.u32 0] (l.length + 1)) (l.length + 1) (Nat.le_refl _) (by unfold maxLen; omega) (by simp [size_madeCells])
    have hb20 := (Below.refl w2.heap.size w2).alloc (Nat.le_refl _) (.cells (madeCells #[Value.int IntKind.u32 0] (l.length + 1)) 148)
    go_wp2
    go_loopw [7, 8, 28] (fun o c q wr => ∃ (k cc : Nat) (os : List Nat), q = .int .i64 k ∧ k ≤ l.length ∧ c = .int .u64 cc ∧ cc ≤ 1 ∧ wr.ownsRow w2.heap.size 148 1 o k (limbVals os) ∧ os.length = k ∧ Lim os ∧ lv os + 4294967296 ^ k * cc = lv (l.take k) + lv (m.take k) ∧ Below w2.heap.size w2 wr) (fun _ _ q _ => l.length - (intOf q).toNat)
    case atStart => exact ⟨0, 0, [], rfl, Nat.zero_le _, rfl, by omega, hown0, rfl, lim_nil, by simp [lv_nil], hb20⟩
    case round =>
      obtain ⟨k, cc, os, rfl, hk, rfl, hcc, hown, ho, hlo, hlv, hb2r⟩ := hrel
      have hszr : w2.heap.size ≤ wr.heap.size := hb2r.size
      clear hmk hown0 hb20
      by_cases hlt : k < l.length
      · obtain ⟨⟨b1, o1, rfl, hc1⟩, hx1⟩ := hcl k hlt
        have hc1r := (ext_cell hb2r _ (by rw [hc1]; simp)).trans hc1
        have hst := fun y hy => add_step l m os k cc y hlt ho hy hlv
        by_cases hlm : k < m.length
        · obtain ⟨⟨b2, o2, rfl, hc2⟩, hx2⟩ := hcm k hlm
          have hc2r := (ext_cell hb2r _ (by rw [hc2]; simp)).trans hc2
          have hst2 := hst (m.getD k default) (by rw [if_pos hlm])
          generalize l.getD k default = x at *
          generalize m.getD k default = y at *
          have HH : Hid (lv (os ++ [(cc + x + y) % 4294967296]) + 4294967296 ^ (k + 1) * ((cc + x + y) / 4294967296) = lv (l.take (k + 1)) + lv (m.take (k + 1)) ∧ os.length = k) := ⟨hst2, ho⟩
          clear hst2 hst ho hlv hcl hcm hc1 hc2
          go_wp2_with (at_builtin; go_must (refine wpList_app rfl _ _ 146 rfl w2.heap.size el_limbs _ _ _ rfl (hown.alloc _) _ rfl 1 [.int .u32 ((↑cc + ↑x + ↑y) % 4294967296)] (SliceAt.lit _ _ 1 1 _ rfl (by decide)) rfl (one_int _ _) (by omega) (by decide) (le_alloc hszr _) ?_); intro v' w' hown' hg)
          have hbf2 := (hb2r.alloc hb2r.size (Obj.cells #[Value.int IntKind.u32 ((↑cc + ↑x + ↑y) % 4294967296)] 148)).grown hg (le_alloc hb2r.size _) (fun k hk => (fun k hk => (hown.lt k hk).1) k hk)
          obtain ⟨hH, hoH⟩ := HH.out
          refine ⟨⟨k + 1, (cc + x + y) / 4294967296, os ++ [(cc + x + y) % 4294967296], by go_num, by omega, by go_num, by omega, by simpa [limbVals] using hown', by simp [hoH], lim_append.2 ⟨hlo, lim_cons.2 ⟨by omega, lim_nil⟩⟩, hH, hbf2⟩, by simp [intOf]; omega⟩
        · have hst2 := hst 0 (by rw [if_neg hlm])
          generalize l.getD k default = x at *
          have HH : Hid (lv (os ++ [(cc + x) % 4294967296]) + 4294967296 ^ (k + 1) * ((cc + x) / 4294967296) = lv (l.take (k + 1)) + lv (m.take (k + 1)) ∧ os.length = k) := ⟨hst2, ho⟩
          clear hst2 hst ho hlv hcl hcm hc1
          go_wp2_with (at_builtin; go_must (refine wpList_app rfl _ _ 146 rfl w2.heap.size el_limbs _ _ _ rfl (hown.alloc _) _ rfl 1 [.int .u32 ((↑cc + ↑x) % 4294967296)] (SliceAt.lit _ _ 1 1 _ rfl (by decide)) rfl (one_int _ _) (by omega) (by decide) (le_alloc hszr _) ?_); intro v' w' hown' hg)
          have hbf2 := (hb2r.alloc hb2r.size (Obj.cells #[Value.int IntKind.u32 ((↑cc + ↑x) % 4294967296)] 148)).grown hg (le_alloc hb2r.size _) (fun k hk => (fun k hk => (hown.lt k hk).1) k hk)
          obtain ⟨hH, hoH⟩ := HH.out
          refine ⟨⟨k + 1, (cc + x) / 4294967296, os ++ [(cc + x) % 4294967296], by go_num, by omega, by go_num, by omega, by simpa [limbVals] using hown', by simp [hoH], lim_append.2 ⟨hlo, lim_cons.2 ⟨by omega, lim_nil⟩⟩, hH, hbf2⟩, by simp [intOf]; omega⟩
      · obtain rfl : k = l.length := by omega
        rw [List.take_of_length_le (Nat.le_refl _), List.take_of_length_le (by omega)] at hlv
        have HH : Hid (lv (os ++ [cc]) = vn s + vn t ∧ os.length = l.length) := ⟨by rw [lv_snoc, ho, hlv]; have := H.out; omega, ho⟩
        clear hcl hcm hlv ho
        go_wp2_with (first
          | (at_builtin; go_must (refine wpList_app rfl _ _ 146 rfl w2.heap.size el_limbs _ _ _ rfl (hown.alloc _) _ rfl 1 [.int .u32 (cc : Int)] (SliceAt.lit _ _ 1 1 _ rfl (by decide)) rfl (one_int _ _) (by omega) (by decide) (le_alloc hszr _) ?_); intro v' w' hown' hg)
          | (go_at_call 132; go_must (refine (lnat_any (os ++ [cc]) _ _ ⟨SliceAt.owned (by simpa [limbVals] using hown'), lim_append.2 ⟨hlo, lim_cons.2 ⟨by omega, lim_nil⟩⟩⟩ (by rw [List.length_append, HH.out.2]; simp; omega)).mono ?_); rintro e w'' ⟨rfl, hb3⟩))
        have hbf := (hb2r.alloc hszr (Obj.cells #[Value.int IntKind.u32 (cc : Int)] 148)).grown hg (le_alloc hszr _) (fun k hk => (hown.lt k hk).1)
        go_ret
        exact ⟨ret_str (by rw [HH.out.1]), (hb.trans (hbf.mono hb.size)).trans (hb3.mono (Nat.le_trans hb.size hbf.size))⟩
end Go.Proofs.YtlloghbaggdhnaaDoor
