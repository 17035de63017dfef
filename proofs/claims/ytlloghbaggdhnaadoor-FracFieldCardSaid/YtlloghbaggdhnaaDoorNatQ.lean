/- Walks: nat.Text. -/
import Derived.Test.YtlloghbaggdhnaaDoorNatO
import Derived.Test.YtlloghbaggdhnaaDoorKitB
set_option linter.unusedVariables false
set_option linter.unusedSimpArgs false
namespace Go.Proofs.YtlloghbaggdhnaaDoor
open Go.RowKit

/-- Decimal digits, the highest first; of 0 none. -/
def dec (n : Nat) : List UInt8 := if n = 0 then [] else dec (n / 10) ++ [UInt8.ofNat (48 + n % 10)]
termination_by n
decreasing_by omega
def textOf (n : Nat) : List UInt8 := if n = 0 then [48] else dec n
theorem dec_zero : dec 0 = [] := by rw [dec]; rfl
theorem dec_pos (n : Nat) (h : n ≠ 0) : dec n = dec (n / 10) ++ [UInt8.ofNat (48 + n % 10)] := by rw [dec, if_neg h]
theorem dec_length (n k : Nat) (h : n < 10 ^ k) : (dec n).length ≤ k := by
  induction k generalizing n with
  | zero => have : n = 0 := by simpa using h
            rw [this, dec_zero]; simp
  | succ k ih =>
    by_cases h0 : n = 0
    · rw [h0, dec_zero]; simp
    · rw [dec_pos n h0, List.length_append]
      have := ih (n / 10) (by rw [Nat.div_lt_iff_lt_mul (by omega)]; rwa [Nat.pow_succ] at h)
      simp; omega
theorem dec_le (n k : Nat) (h : n < 256 ^ k) : (dec n).length ≤ 3 * k := by
  refine dec_length n _ (Nat.lt_of_lt_of_le h ?_)
  rw [Nat.pow_mul]
  exact Nat.pow_le_pow_left (by omega) k

/-- The number of limbs, read off the world: a measure. -/
def limbsVal (w : World) (v : Value) : Nat :=
  match v with
  | .slice (some a) n _ => lv ((List.range n).map fun i => match w.cell? ⟨a.block, a.off + i, none⟩ with | some (.int _ z) => z.toNat | _ => 0)
  | _ => 0
theorem limbsVal_eq {w : World} {v : Value} {l : List Nat} (h : Limbs w v l) : limbsVal w v = lv l := by
  obtain ⟨n, cap, _, _, _, hn, h⟩ := h.1
  have hl : l.length = n := by simpa [limbVals] using hn
  subst hl
  rcases h with ⟨h0, a, rfl⟩ | ⟨b, off, rfl, hc⟩
  · have : l = [] := List.eq_nil_of_length_eq_zero h0
    subst this
    cases a <;> rfl
  · show lv ((List.range l.length).map fun i => match w.cell? ⟨b, off + i, none⟩ with | some (.int _ z) => z.toNat | _ => 0) = lv l
    congr 1
    apply List.ext_getElem
    · simp
    · intro i h1 h2
      have := hc i (by simpa [limbVals] using h2)
      simp [this, limbVals]

def RetStr (w : World) (l : List UInt8) (e : Ending) (w' : World) : Prop := e = .returned (.string ⟨l.toArray⟩) ∧ Below w.heap.size w w'

theorem text_zero (a : ByteArray) (w : World) (ha : a.size ≤ 137438953472) (h0 : vn a = 0) :
    Calls Tryd.prog 79 #[.string a] w (RetStr w (textOf (vn a))) := by
  have HS := split_any a w (by omega)
  have H : Hid (textOf (vn a) = [48]) := by rw [Hid, textOf, if_pos h0]
  have G := Lib.hid HS
  have H0 := Lib.hid h0
  clear HS h0
  go_enter Tryd.func79, Tryd.ntmps79
  go_wp2_with (fail)
  refine G.out.mono ?_; rintro e w1 ⟨v1, l, rfl, hl, hcl, hvl, _, hb1⟩
  have hnil : l = [] := (can_zero hcl).1 (by rw [hvl]; exact H0.out)
  subst hnil
  obtain ⟨a1, p1, rfl, hnc1, hcm1, hc⟩ := hl.op
  clear hvl hcl hc
  simp only [List.length_nil]
  go_wp2_with (fail)
  go_ret
  exact ⟨by rw [H.out]; rfl, hb1⟩

set_option maxRecDepth 100000 in
set_option maxHeartbeats 1000000 in
theorem text_pos (a : ByteArray) (w : World) (ha : a.size ≤ 137438953472) (h0 : vn a ≠ 0) :
    Calls Tryd.prog 79 #[.string a] w (RetStr w (textOf (vn a))) := by
  have HS := split_any a w (by omega)
  have hva := vn_lt a
  have hdl := dec_le (vn a) _ hva
  have H : Hid (textOf (vn a) = dec (vn a)) := by rw [Hid, textOf, if_neg h0]
  have G := Lib.hid HS
  have H0 : Hid (vn a ≠ 0 ∧ vn a < 256 ^ a.size ∧ (dec (vn a)).length ≤ 3 * a.size) := ⟨h0, hva, hdl⟩
  clear HS h0 hva hdl
  go_enter Tryd.func79, Tryd.ntmps79
  go_wp2_with (fail)
  refine G.out.mono ?_; rintro e w1 ⟨v1, l, rfl, hl, hcl, hvl, _, hb1⟩
  have hll := limbs_le hcl hvl H0.out.2.1
  have hl1 : 0 < l.length := by
    rcases Nat.eq_zero_or_pos l.length with h | h
    · have := List.eq_nil_of_length_eq_zero h
      subst this
      exact absurd hvl.symm H0.out.1
    · exact h
  have hL := Lib.hid hl
  obtain ⟨a1, p1, rfl, hnc1, hcm1, hc⟩ := hl.op
  have K : Hid (Can l ∧ lv l = vn a) := ⟨hcl, hvl⟩
  have hle0 : ((l.length : Int) == 0) = false := beq_eq_false_iff_ne.2 (by omega)
  clear hcl hvl hc hl
  go_wp2_with (fail)
  go_loopw [3, 4] (fun x o wr => ∃ (ls : List Nat) (ds : List UInt8), Limbs wr x ls ∧ Can ls ∧ wr.ownsRow w.heap.size 5 1 o ds.length (byteVals ds) ∧ dec (vn a) = dec (lv ls) ++ ds.reverse ∧ ls.length ≤ (a.size + 3) / 4 ∧ Below w.heap.size w wr) (fun x _ wr => limbsVal wr x)
  case atStart => exact ⟨l, [], hL.out, K.out.1, World.ownsRow_nil _ _ _ _, by rw [K.out.2]; simp, hll, hb1⟩
  case round =>
    obtain ⟨ls, ds, hls, hcs, hown, hdec, hlen, hbr⟩ := hrel
    have hLS := Lib.hid hls
    have hsz : w.heap.size ≤ wr.heap.size := hbr.size
    have hmeas := limbsVal_eq hls
    have hdl : (dec (lv ls)).length + ds.length ≤ 3 * a.size := by
      have := H0.out.2.2; rw [hdec] at this; simpa using this
    have HM : Hid (limbsVal wr u3 = lv ls) := hmeas
    obtain ⟨a2, p2, rfl, hnc2, hcm2, hc⟩ := hls.op
    clear hc hls hmeas
    unfold maxLen at hcm2
    by_cases hn : 0 < ls.length
    · have hpos : lv ls ≠ 0 := fun e => by have := (can_zero hcs).1 e; rw [this] at hn; simp at hn
      have hby := by_any ls _ 10 wr hLS.out (by decide) (by decide) (by omega)
      have hds := dec_pos (lv ls) hpos
      have hlvb := lv_lt hLS.out.2
      have HH : Hid (dec (vn a) = dec (lv ls) ++ ds.reverse ∧ dec (lv ls) = dec (lv ls / 10) ++ [UInt8.ofNat (48 + lv ls % 10)] ∧ wr.ownsRow w.heap.size 5 1 u4 ds.length (byteVals ds) ∧ lv ls / 10 < lv ls ∧ lv ls < 4294967296 ^ ls.length) := ⟨hdec, hds, hown, by omega, hlvb⟩
      have hr10 : lv ls % 10 < 10 := Nat.mod_lt _ (by omega)
      have hq : lv ls / 10 ≤ lv ls := Nat.div_le_self _ _
      generalize hqq : lv ls / 10 = q at *
      generalize hrr : lv ls % 10 = r at *
      have HB := Lib.hid hby
      clear hdec hds hown hpos hby hcs hqq hrr hlvb hq
      go_wp2_with (fail)
      refine HB.out.mono ?_; rintro e w2 ⟨v2, l2, rfl, hl2, hcl2, hvl2, hfr2, hb2⟩
      have hown2 : w2.ownsRow w.heap.size 5 1 u4 ds.length (byteVals ds) := HH.out.2.2.1.kept (row := none) ⟨hb2.os, hb2.tape, hb2.output, hb2.size, fun k hk _ => hb2.block k hk⟩ (by cases hv : u4.ownBlock <;> simp)
      have hsz2 : w.heap.size ≤ w2.heap.size := Nat.le_trans hsz hb2.size
      have hb3 := hbr.trans (hb2.mono hsz)
      have HL2 : Hid (Limbs w2 v2 l2 ∧ Can l2 ∧ lv l2 = q ∧ FreshV wr.heap.size v2) := ⟨hl2, hcl2, hvl2, hfr2⟩
      clear hl2 hcl2 hvl2 hfr2
      have hdl2 : ds.length + 1 ≤ 3 * a.size := by
        rw [HH.out.2.1] at hdl; simp at hdl; omega
      go_wp2_with (at_builtin; go_must (refine wpList_app rfl _ _ 156 rfl w.heap.size el_bytes _ _ _ rfl (hown2.alloc _) _ rfl 1 [.int .u8 (48 + (r : Int))] (SliceAt.lit _ _ 1 1 _ rfl (by decide)) rfl (one_int _ _) (by omega) (by decide) (le_alloc hsz2 _) ?_); intro v' w' hown' hg)
      obtain ⟨hl2, hcl2, hvl2, hfr2⟩ := HL2.out
      obtain ⟨hdec, hds, hown, hqlt, hlvb⟩ := HH.out
      have hbf := (hb3.alloc hsz2 (Obj.cells #[Value.int IntKind.u8 (48 + (r : Int))] 5)).grown hg (le_alloc hsz2 _) (fun k hk => (hown.lt k hk).1)
      have hl3 : Limbs w' v2 l2 := ⟨(hl2.1.alloc _).grown hfr2 (fun k hk => (hown.lt k hk).2) hg, hl2.2⟩
      refine ⟨⟨l2, ds ++ [UInt8.ofNat (48 + r)], hl3, hcl2, ?_, ?_, ?_, hbf⟩, ?_⟩
      · rw [List.length_append]
        have hb8 : (48 + (r : Int)) = ((UInt8.ofNat (48 + r)).toNat : Int) := by simp; omega
        rw [hb8] at hown'
        simpa [byteVals] using hown'
      · rw [hdec, hds, hvl2]; simp
      · refine Nat.le_trans (can_length_le hcl2 ?_) hlen
        rw [hvl2]; omega
      · rw [limbsVal_eq hl3, HM.out, hvl2]; exact hqlt
    · have hnil : ls = [] := List.eq_nil_of_length_eq_zero (by omega)
      subst hnil
      rw [lv_nil, dec_zero, List.nil_append] at hdec
      have hdn : ds ≠ [] := fun e => by rw [e] at hdec; have h2 := dec_pos (vn a) H0.out.1; rw [hdec] at h2; simp at h2
      have hdn1 : 0 < ds.length := List.length_pos_iff.2 hdn
      obtain ⟨hlo, hown'⟩ := hown
      rcases hown' with ⟨rfl, h0⟩ | ⟨g, cap, cur, rfl, hbase, hgb, hn2, hm2, hs2, ht2⟩
      · omega
      · have hblk : Blk wr g 5 cur.toList := by unfold Blk; rw [Array.toArray_toList]; exact hgb
        have HR := reverse_any g ds.length cap cur.toList ds wr hblk rfl (by have : cur.toList.length = cur.size := Array.length_toList; omega) (by rw [← ht2, Nat.mul_one]) hn2 hm2
        have HRR := Lib.hid HR
        have HD : Hid (dec (vn a) = ds.reverse) := hdec
        have HM2 := Lib.hid hm2
        clear hblk HR hdec hgb hs2 ht2 hdn hlo hm2 hcs
        go_wp2_with (fail)
        refine HRR.out.mono ?_; rintro e w3 ⟨⟨vv, rfl⟩, ⟨cs', hblk3, hlen3, htk3⟩, hgr3⟩
        have hb3 : Below w.heap.size w w3 := hbr.grown hgr3 hsz (fun k hk => by cases hk; exact hbase)
        have hlc : ds.length ≤ cs'.length := by
          have := congrArg List.length htk3
          simp [byteVals] at this; omega
        have hsl : SliceAt w3 (.slice (some ⟨g, 0, none⟩) ds.length cap) 1 (byteVals ds.reverse) := by
          refine ⟨ds.length, cap, Nat.le_trans hn2 HM2.out, hn2, HM2.out, by simp [byteVals], .inr ⟨g, 0, rfl, fun j hj => ?_⟩⟩
          have hjn : j < ds.length := by simpa [byteVals] using hj
          rw [Nat.zero_add, hblk3.cell?, ← List.getElem?_take_of_lt hjn, htk3, List.getElem?_eq_getElem hj]
        have hcv := conv_bytes (P := Tryd.prog) hsl 156 5 9 Tryd.underlying156 Tryd.underlying5 Tryd.underlying9
        clear hsl hblk3 hlen3 htk3 hgr3 hlc
        go_wp2_with (fail)
        go_ret
        exact ⟨by rw [H.out, HD.out]; rfl, hb3⟩

theorem text_any (a : ByteArray) (w : World) (ha : a.size ≤ 137438953472) :
    Calls Tryd.prog 79 #[.string a] w (RetStr w (textOf (vn a))) := by
  by_cases h : vn a = 0
  · exact text_zero a w ha h
  · exact text_pos a w ha h
end Go.Proofs.YtlloghbaggdhnaaDoor
