/- Walks: nat.Parse. -/
import Derived.Test.YtlloghbaggdhnaaDoorNatQ
set_option linter.unusedVariables false
set_option linter.unusedSimpArgs false
namespace Go.Proofs.YtlloghbaggdhnaaDoor
open Go.RowKit

def dval (l : List UInt8) : Nat := l.foldl (fun n c => n * 10 + (c.toNat - 48)) 0
def isDig (c : UInt8) : Bool := decide (48 ≤ c.toNat ∧ c.toNat ≤ 57)
/-- What Parse answers: the error (0: none). -/
def parseErr (l : List UInt8) : Nat := if l = [] ∨ (1 < l.length ∧ l.getD 0 0 = 48) then 1 else if l.all isDig then (if 400 < l.length then 2 else 0) else 1
def parseVal (l : List UInt8) : Nat := if parseErr l = 0 then dval l else 0

theorem dval_snoc (l : List UInt8) (c : UInt8) : dval (l ++ [c]) = dval l * 10 + (c.toNat - 48) := by simp [dval, List.foldl_append]
theorem dval_take (s : ByteArray) (k : Nat) (h : k < s.size) : dval (s.data.toList.take (k + 1)) = dval (s.data.toList.take k) * 10 + (s[k].toNat - 48) := by
  rw [List.take_succ_eq_append_getElem (by rw [bytes_size]; exact h), dval_snoc, bytes_get s k h]

def RetParse (w : World) (n err : Nat) (e : Ending) (w' : World) : Prop := e = .returned (.tuple #[.string (ns n), .int .i64 (err : Nat)]) ∧ Below w.heap.size w w'

theorem owns_some {w : World} {base : Nat} {e : TypeId} {size n : Nat} {v : Value} {xs : List Value} (h : w.ownsRow base e size v n xs) (hn : 0 < n) : ∃ g cap, v = .slice (some ⟨g, 0, none⟩) n cap ∧ base ≤ g := by
  rcases h.2 with ⟨rfl, h0⟩ | ⟨g, cap, cur, rfl, hb, _⟩
  · omega
  · exact ⟨g, cap, rfl, hb⟩

/-- One step of times ten and so many. -/
theorem ten_step (ls ls0 : List Nat) (j c x d : Nat) (hj : j < ls0.length) (hlen : ls.length = ls0.length) (hx : ls0.getD j default = x) (hd : ls.drop j = ls0.drop j) (h : lv (ls.take j) + 4294967296 ^ j * c = 10 * lv (ls0.take j) + d) :
    lv ((ls.set j ((c + x * 10) % 4294967296)).take (j + 1)) + 4294967296 ^ (j + 1) * ((c + x * 10) / 4294967296) = 10 * lv (ls0.take (j + 1)) + d := by
  have e1 : (ls.set j ((c + x * 10) % 4294967296)).take (j + 1) = ls.take j ++ [(c + x * 10) % 4294967296] := by
    rw [take_snoc _ j (by simp; omega), List.take_set_of_le (Nat.le_refl _)]
    congr 2
    rw [List.getD_eq_getElem?_getD, List.getElem?_set_self (by omega)]; rfl
  rw [e1, take_snoc ls0 j hj, lv_snoc, lv_snoc, List.length_take, List.length_take, Nat.min_eq_left (by omega), Nat.min_eq_left (by omega), hx, Nat.mul_add]
  have e2 : 4294967296 ^ j * (c + x * 10) = 4294967296 ^ j * ((c + x * 10) % 4294967296) + 4294967296 ^ (j + 1) * ((c + x * 10) / 4294967296) := by
    rw [Nat.pow_succ, Nat.mul_assoc, ← Nat.mul_add, Nat.mod_add_div]
  have e3 : 4294967296 ^ j * (c + x * 10) = 4294967296 ^ j * c + 10 * (4294967296 ^ j * x) := by rw [Nat.mul_add, ← Nat.mul_assoc, Nat.mul_comm _ 10]
  omega

theorem parse_bad1 (s : ByteArray) (w : World) (h : s.size = 0) :
    Calls Tryd.prog 77 #[.string s] w (RetParse w 0 1) := by
  have h1 := toList_nil s h
  have H : Hid (ns 0 = ⟨#[]⟩) := ns_zero
  go_enter Tryd.func77, Tryd.ntmps77
  go_wp2_with fail
  go_ret2
  exact ⟨by rw [H.out]; rfl, Below.refl _ _⟩

set_option maxRecDepth 100000 in
theorem parse_bad2 (s : ByteArray) (w : World) (hm : s.size ≤ maxLen) (h : 1 < s.size) (h0 : s[0].toNat = 48) :
    Calls Tryd.prog 77 #[.string s] w (RetParse w 0 1) := by
  have h1 := toList_ne s (by omega)
  have h2 := isEmpty_false s (by omega)
  have H : Hid (ns 0 = ⟨#[]⟩) := ns_zero
  have h3 : ((s[0].toNat : Int) == 48) = true := by rw [h0]; rfl
  unfold maxLen at hm
  clear h0
  go_enter Tryd.func77, Tryd.ntmps77
  go_wp2_with fail
  go_ret2
  exact ⟨by rw [H.out]; rfl, Below.refl _ _⟩

set_option maxRecDepth 100000 in
set_option maxHeartbeats 4000000 in
theorem parse_more (s : ByteArray) (w : World) (hm : s.size ≤ maxLen) (h : 0 < s.size) (h0 : ¬ (1 < s.size ∧ s.data.toList.getD 0 0 = 48)) :
    Calls Tryd.prog 77 #[.string s] w (RetParse w (parseVal s.data.toList) (parseErr s.data.toList)) := by
  have h1 := toList_ne s (by omega)
  have h2 := isEmpty_false s (by omega)
  have hz : Hid (ns 0 = ⟨#[]⟩) := ns_zero
  have hne : s.data.toList ≠ [] := by intro e; have := bytes_size s; rw [e] at this; simp at this; omega
  have HP : Hid (parseErr s.data.toList = if s.data.toList.all isDig then (if 400 < s.size then 2 else 0) else 1) := by
    rw [Hid, parseErr, if_neg (by rw [bytes_size]; intro hh; rcases hh with hh | hh; exact hne hh; exact h0 hh), bytes_size]
  have h01 : 1 < s.size → ((s[0].toNat : Int) == 48) = false := fun hs => by
    refine beq_eq_false_iff_ne.2 fun e => h0 ⟨hs, ?_⟩
    rw [List.getD_eq_getElem?_getD, List.getElem?_eq_getElem (by rw [bytes_size]; exact h), ← bytes_get s 0 h]
    exact UInt8.toNat_inj.1 (by have : s[0].toNat = 48 := by omega
                                rw [Option.getD_some, this]; rfl)
  unfold maxLen at hm
  clear h0 hne
  by_cases hs1 : 1 < s.size
  all_goals
    first | (have h3 := h01 hs1; clear h01) | clear h01
    go_enter Tryd.func77, Tryd.ntmps77
    go_wp2_with fail
    go_loop [25] (fun q => ∃ k : Nat, k ≤ s.size ∧ q = .int .i64 k ∧ (s.data.toList.take k).all isDig = true) (fun q => s.size - (intOf q).toNat)
    case atStart => exact ⟨0, Nat.zero_le _, rfl, rfl⟩
    case round =>
      obtain ⟨k, hk, rfl, hall⟩ := hrel
      by_cases hlt : k < s.size
      · have htk : s.data.toList.take (k + 1) = s.data.toList.take k ++ [s[k]] := by
          rw [List.take_succ_eq_append_getElem (by rw [bytes_size]; exact hlt), bytes_get s k hlt]
        have HA : Hid (isDig s[k] = true → (s.data.toList.take (k + 1)).all isDig = true) := fun hd => by rw [htk, List.all_append, hall]; simp [hd]
        have HB : Hid (isDig s[k] = false → s.data.toList.all isDig = false) := fun hd => by
          rw [← Bool.not_eq_true]
          intro ha
          have := List.all_eq_true.1 ha s[k] (by rw [bytes_get s k hlt]; exact List.getElem_mem _)
          rw [hd] at this; cases this
        clear htk hall
        by_cases hdg : 48 ≤ s[k].toNat ∧ s[k].toNat ≤ 57
        · have HD : Hid (isDig s[k] = true) := by simp [Hid, isDig, hdg]
          obtain ⟨g1, g2⟩ := hdg
          go_wp2_with fail
          exact ⟨⟨k + 1, by omega, by go_num, HA.out HD.out⟩, by simp [intOf]; omega⟩
        · have HD : Hid (parseErr s.data.toList = 1) := by
            rw [Hid, HP.out, HB.out (by simp [isDig]; omega)]; rfl
          rcases Nat.lt_or_ge s[k].toNat 48 with g1 | g1
          · clear hdg
            go_wp2_with fail
            go_ret2
            exact ⟨by rw [parseVal, HD.out]; simp only [Nat.one_ne_zero, if_false]; rw [hz.out]; rfl, Below.refl _ _⟩
          · have g2 : 57 < s[k].toNat := by omega
            clear hdg
            go_wp2_with fail
            go_ret2
            exact ⟨by rw [parseVal, HD.out]; simp only [Nat.one_ne_zero, if_false]; rw [hz.out]; rfl, Below.refl _ _⟩
      · obtain rfl : k = s.size := by omega
        rw [List.take_of_length_le (by rw [bytes_size]; exact Nat.le_refl _)] at hall
        by_cases h400 : 400 < s.size
        · have HD : Hid (parseErr s.data.toList = 2) := by rw [Hid, HP.out, if_pos hall, if_pos h400]
          clear hall
          go_wp2_with fail
          all_goals go_ret2
          all_goals exact ⟨by rw [parseVal, HD.out, if_neg (by decide), hz.out]; rfl, Below.refl _ _⟩
        · have HD : Hid (parseErr s.data.toList = 0 ∧ s.data.toList.all isDig = true) := ⟨by rw [HP.out, if_pos hall, if_neg h400], hall⟩
          obtain ⟨v2, w2, hcv, hs2, hb2⟩ := conv_string (P := Tryd.prog) w s (by unfold maxLen; exact hm) 9 156 5 Tryd.underlying9 Tryd.underlying156 Tryd.underlying5
          obtain ⟨a2, cap2, rfl, _, hcap2, hcell2⟩ := SliceAt.open1 (α := UInt8) hs2
          rw [bytes_size] at hcell2 hcv
          clear hall hs2
          have hb400 : decide ((400 : Int) < (s.size : Int)) = false := by simp; omega
          go_wp2_with fail
          go_loopw [5, 45] (fun u q wr => ∃ (k : Nat) (ls : List Nat), q = .int .i64 k ∧ k ≤ s.size ∧ wr.ownsRow w2.heap.size 148 1 u ls.length (limbVals ls) ∧ Lim ls ∧ ls.length ≤ k ∧ lv ls = dval (s.data.toList.take k) ∧ Below w2.heap.size w2 wr) (fun _ q _ => s.size - (intOf q).toNat)
          case atStart => exact ⟨0, [], rfl, Nat.zero_le _, World.ownsRow_nil _ _ _ _, lim_nil, Nat.le_refl _, rfl, Below.refl _ _⟩
          case round =>
            obtain ⟨k, ls, rfl, hk, hown, hlim, hlen, hlv, hbr⟩ := hrel
            obtain ⟨wo, rfl⟩ : ∃ wo : World, wo = wr := ⟨_, rfl⟩
            clear hcv
            by_cases hlt : k < s.size
            · obtain ⟨b2, off2, rfl, hc2⟩ := hcell2 k hlt
              have hc2r := (ext_cell hbr _ (by rw [hc2]; simp)).trans hc2
              have hge : s.data.toList.getD k default = s[k] := by rw [bytes_get s k hlt, List.getD_eq_getElem?_getD, List.getElem?_eq_getElem (by rw [bytes_size]; exact hlt)]; rfl
              rw [hge] at hc2r
              have hdt := dval_take s k hlt
              have hdg : isDig s[k] = true := List.all_eq_true.1 HD.out.2 s[k] (by rw [bytes_get s k hlt]; exact List.getElem_mem _)
              have hdg2 : 48 ≤ s[k].toNat ∧ s[k].toNat ≤ 57 := by simpa [isDig] using hdg
              generalize s[k] = y at *
              obtain ⟨d, hd⟩ : ∃ d, y.toNat = 48 + d := ⟨y.toNat - 48, by omega⟩
              rw [hd] at hc2r hdg2 hdt
              have hd9 : d ≤ 9 := by omega
              have hsub : (48 + (d : Int) - 48) = (d : Int) := by omega
              obtain ⟨au, cu, rfl⟩ := owns_shape hown
              have HO : Hid (wo.ownsRow w2.heap.size 148 1 (.slice au ls.length cu) ls.length (limbVals ls) ∧ lv ls = dval (s.data.toList.take k) ∧ dval (s.data.toList.take (k + 1)) = dval (s.data.toList.take k) * 10 + d) := ⟨hown, hlv, by rw [hdt, Nat.add_sub_cancel_left]⟩
              clear hown hlv hdt hdg hdg2 hge hcell2 hc2 hd
              go_wp2_with fail
              go_loopw [8, 54] (fun c q wr => ∃ (j cc : Nat) (l2 : List Nat), q = .int .i64 j ∧ j ≤ ls.length ∧ c = .int .u64 cc ∧ cc ≤ 10 ∧ wr.ownsRow w2.heap.size 148 1 (.slice au ls.length cu) ls.length (limbVals l2) ∧ l2.length = ls.length ∧ Lim l2 ∧ l2.drop j = ls.drop j ∧ lv (l2.take j) + 4294967296 ^ j * cc = 10 * lv (ls.take j) + d ∧ Below w2.heap.size w2 wr) (fun _ q _ => ls.length - (intOf q).toNat)
              case atStart => exact ⟨0, d, ls, rfl, Nat.zero_le _, rfl, by omega, HO.out.1, rfl, hlim, rfl, by simp [lv_nil], hbr⟩
              case round =>
                obtain ⟨j, cc, l2, rfl, hj, rfl, hcc, hown, hl2, hlim2, hdr, hlv, hb2r⟩ := hrel
                by_cases hjl : j < ls.length
                · first
                  | (exfalso; omega)
                  | (obtain ⟨g, cp, hau, hgb⟩ := owns_some hown (by omega)
                     obtain ⟨rfl, rfl⟩ : au = some ⟨g, 0, none⟩ ∧ cu = cp := by injection hau with e1 e2 e3; exact ⟨e1, e3⟩
                     have hcell := hown.cellAt j (by omega)
                     have hjl2 : j < l2.length := by omega
                     have hx := lim_get hlim2 j default hjl2
                     have hst := fun x hx => ten_step l2 ls j cc x d hjl hl2 hx hdr hlv
                     have hst2 := hst _ (getD_drop l2 ls j hdr).symm
                     rw [show (limbVals l2)[j]? = some (Value.int .u32 ((l2.getD j default : Nat) : Int)) by simp [limbVals, List.getD_eq_getElem?_getD, List.getElem?_eq_getElem hjl2]] at hcell
                     have hfr := hown.frozenAt j
                     generalize l2.getD j default = x at *
                     have HH : Hid (lv ((l2.set j ((cc + x * 10) % 4294967296)).take (j + 1)) + 4294967296 ^ (j + 1) * ((cc + x * 10) / 4294967296) = 10 * lv (ls.take (j + 1)) + d ∧ wr.ownsRow w2.heap.size 148 1 (.slice (some ⟨g, 0, none⟩) ls.length cu) ls.length (limbVals l2) ∧ l2.length = ls.length ∧ l2.drop j = ls.drop j) := ⟨hst2, hown, hl2, hdr⟩
                     clear hst hst2 hown hl2 hdr hlv hau
                     go_wp2_with fail
                     obtain ⟨hst2, hown, hl2, hdr⟩ := HH.out
                     refine ⟨⟨j + 1, (cc + x * 10) / 4294967296, l2.set j ((cc + x * 10) % 4294967296), by go_num, by omega, by go_num, by omega, ?_, by simpa using hl2, lim_set hlim2 _ _ (by omega), ?_, hst2, hb2r.setCell hgb _⟩, by simp [intOf]; omega⟩
                     · have := (hown.stored j (Value.int .u32 (((cc + x * 10) % 4294967296 : Nat) : Int))).1
                       rw [show limbVals (l2.set j ((cc + x * 10) % 4294967296)) = (limbVals l2).set j (Value.int .u32 (((cc + x * 10) % 4294967296 : Nat) : Int)) by simp [limbVals, List.map_set]]
                       exact this
                     · rw [List.drop_set_of_lt (by omega)]
                       have := congrArg (List.drop 1) hdr
                       rw [List.drop_drop, List.drop_drop] at this
                       exact this)
                · obtain rfl : j = ls.length := by omega
                  rw [List.take_of_length_le (by omega), List.take_of_length_le (Nat.le_refl _), HO.out.2.1] at hlv
                  have hnew := HO.out.2.2
                  have hszr : w2.heap.size ≤ wr.heap.size := hb2r.size
                  by_cases hc0 : 0 < cc
                  · have HH : Hid (lv (l2 ++ [cc]) = dval (s.data.toList.take (k + 1)) ∧ l2.length = ls.length) := ⟨by rw [lv_snoc, hl2, hlv, hnew]; omega, hl2⟩
                    have hown0 := hown
                    clear hlv hnew hdr
                    go_wp2_with (at_builtin; go_must (refine wpList_app rfl _ _ 146 rfl w2.heap.size el_limbs _ _ _ rfl (hown.alloc _) _ rfl 1 [.int .u32 (cc : Int)] (SliceAt.lit _ _ 1 1 _ rfl (by decide)) rfl (one_int _ _) (by omega) (by decide) (le_alloc hszr _) ?_); intro v' w' hown' hg)
                    have hbf := (hb2r.alloc hszr (Obj.cells #[Value.int IntKind.u32 (cc : Int)] 148)).grown hg (le_alloc hszr _) (fun k hk => (hown0.lt k hk).1)
                    refine ⟨⟨k + 1, l2 ++ [cc], by go_num, by omega, ?_, lim_append.2 ⟨hlim2, lim_cons.2 ⟨by omega, lim_nil⟩⟩, by have := HH.out.2; simp; omega, HH.out.1, hbf⟩, by simp [intOf]; omega⟩
                    rw [List.length_append, HH.out.2]
                    simpa [limbVals] using hown'
                  · have hcz : Hid (cc = 0) := by simp only [Hid]; omega
                    rw [hcz.out] at hlv
                    have hcz2 : cc ≤ 0 := by omega
                    have HH : Hid (lv l2 = dval (s.data.toList.take (k + 1)) ∧ l2.length = ls.length ∧ wr.ownsRow w2.heap.size 148 1 (.slice au ls.length cu) ls.length (limbVals l2)) := ⟨by rw [hnew]; omega, hl2, hown⟩
                    clear hlv hnew hdr hl2 hown
                    go_wp2_with fail
                    exact ⟨⟨k + 1, l2, by go_num, by omega, by rw [HH.out.2.1]; exact HH.out.2.2, hlim2, by have := HH.out.2.1; omega, HH.out.1, hb2r⟩, by simp [intOf]; omega⟩
            · obtain rfl : k = s.size := by omega
              rw [List.take_of_length_le (by rw [bytes_size]; exact Nat.le_refl _)] at hlv
              have HL := lnat_any ls u5 wo ⟨SliceAt.owned hown, hlim⟩ (by omega)
              rw [hlv] at HL
              have HH := Lib.hid HL
              clear HL hlv hown hcell2
              go_wp2_with (go_at_call 132; refine HH.out.mono ?_; rintro e w' ⟨rfl, hb3⟩)
              go_ret2
              exact ⟨by rw [parseVal, if_pos HD.out.1, HD.out.1]; rfl, (hb2.trans (hbr.mono hb2.size)).trans (hb3.mono (Nat.le_trans hb2.size hbr.size))⟩
end Go.Proofs.YtlloghbaggdhnaaDoor
