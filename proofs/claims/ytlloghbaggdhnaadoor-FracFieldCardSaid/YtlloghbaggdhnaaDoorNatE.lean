/- Walks: slices.Backward at limbs, limbs.nat. -/
import Derived.Test.YtlloghbaggdhnaaDoorNatD
import Derived.Test.YtlloghbaggdhnaaDoorRf
set_option linter.unusedVariables false
set_option linter.unusedSimpArgs false
namespace Go.Proofs.YtlloghbaggdhnaaDoor
open Go.RowKit Go.Shelf
attribute [local go_sem] Oper.semAt_some

def RetBackward (w : World) (v : Value) (e : Ending) (w' : World) : Prop := e = .returned (.func (.func 189) #[] #[.pointer (some ⟨w.heap.size, 0, none⟩)]) ∧ w' = w.alloc (.cells #[v] 146)

theorem backward_any (a : Option Addr) (n cap : Nat) (w : World) :
    Calls Tryd.prog 171 #[.slice a n cap] w (RetBackward w (.slice a n cap)) := by
  go_enter Tryd.func171, Tryd.ntmps171
  go_wp2
  go_ret
  exact ⟨rfl, rfl⟩

/-- What Backward tells: each place with its limb, from the last one. -/
def backs (l : List Nat) : List (Nat × Nat) := (List.range l.length).map fun k => (l.length - 1 - k, l.getD (l.length - 1 - k) default)

theorem backs_length (l : List Nat) : (backs l).length = l.length := by simp [backs]
theorem backs_take (l : List Nat) (k m : Nat) (h : m + 1 + k = l.length) : (backs l).take (k + 1) = (backs l).take k ++ [(m, l.getD m default)] := by
  rw [List.take_add_one]
  congr 1
  simp only [backs, List.getElem?_map, List.getElem?_range (show k < l.length by omega), Option.map_some, Option.toList_some, show l.length - 1 - k = m by omega]

set_option maxRecDepth 100000 in
set_option maxHeartbeats 1000000 in
theorem back1_in (n : Nat) (hn : 1 ≤ n) (lp Bn n₀ : Nat) (v : Value) (ls : List Nat) (J Jx : List (Nat × Nat) → World → Prop)
    (hY : ∀ pre x W, J pre W → pre.length < ls.length → YieldAt Fence.wide (n - 1) Tryd.prog lp #[.int .i64 (x.1 : Nat), .int .u32 (x.2 : Nat)] W fun e W' =>
      (e = .returned (.bool true) ∧ J (pre ++ [x]) W' ∧ KeepBox n₀ Bn W W') ∨ (e = .returned (.bool false) ∧ Jx (pre ++ [x]) W'))
    (w0 W : World) (hBn : W.cell? ⟨Bn, 0, none⟩ = some v) (hL : SliceAt w0 v 1 (limbVals ls)) (hw0 : n₀ = w0.heap.size) (hW : Below n₀ w0 W) (h0 : J [] W) :
    CallsIn Fence.wide n Tryd.prog 189 #[.func (.yield lp) #[] #[], .pointer (some ⟨Bn, 0, none⟩)] W fun e W' => (∃ v, e = .returned v) ∧
      ((∃ ys, ys = backs ls ∧ J ys W') ∨ (∃ pre, pre <+: backs ls ∧ Jx pre W')) := by
  refine callsIn_of_wp Tryd.func189 rfl trivial ?_ rfl
  simp only [Tryd.ntmps189, List.size_toArray, List.length_cons, List.length_nil, Nat.reduceAdd, Nat.reduceSub, Array.replicate_succ, Array.replicate_zero, List.push_toArray, List.append_toArray, List.nil_append, List.cons_append]
  subst hw0
  obtain ⟨a, cap, rfl, hnc, hcm, hcell⟩ := SliceAt.open1 hL
  unfold maxLen at hcm
  gi_wp2
  gi_loopw [3] (fun q wr => ∃ (k : Nat) (i : Int), q = .int .i64 i ∧ i + 1 + k = ls.length ∧ -1 ≤ i ∧ J ((backs ls).take k) wr ∧ wr.cell? ⟨Bn, 0, none⟩ = some (.slice a ls.length cap) ∧ Below w0.heap.size w0 wr) (fun q _ => (intOf q + 1).toNat)
  case atStart => exact ⟨0, _, rfl, by omega, by omega, h0, hBn, hW⟩
  case round =>
    clear hBn hW h0
    obtain ⟨k, i, rfl, hik, hi1, hJ, hbox, hb⟩ := hrel
    by_cases hi : 0 ≤ i
    · obtain ⟨m, rfl⟩ := Int.eq_ofNat_of_zero_le hi
      have hm : m + 1 + k = ls.length := by omega
      have hml : m < ls.length := by omega
      obtain ⟨b, off, rfl, hc0⟩ := hcell m hml
      have hc : wr.cell? ⟨b, off + m, none⟩ = some (Value.int IntKind.u32 ↑(ls.getD m default)) := by rw [hb.cell (World.block_lt_of_cell? w0 _ hc0)]; exact hc0
      obtain ⟨fn, tmps, assign, body, hy, hR⟩ := hY _ (m, ls.getD m default) wr hJ (by rw [List.length_take, backs_length]; omega)
      have hbt := backs_take ls k m hm
      rw [← hbt] at hR
      dsimp only at hy
      generalize ls.getD m default = x at hc hy
      have H : Hid (m + 1 + k = ls.length) := hm
      clear hcell hc0 hbt hY hik hm hJ
      gi_wp2
      refine hR.mono ?_
      rintro e W3 (⟨rfl, hJ3, hk3⟩ | ⟨rfl, hJx3⟩)
      · have hbox3 := hk3.2 _ hbox
        have hb3 := hb.trans hk3.1
        have hmH := H.out
        gi_wp2
        go_roundw
        case rel => refine ⟨k + 1, _, rfl, ?_, ?_, hJ3, hbox3, hb3⟩ <;> omega
        case measure => simp [intOf]
      · gi_wp2
        refine bodyPost_ret (results_none rfl _ _ _) rfl ?_
        exact ⟨⟨_, rfl⟩, .inr ⟨_, List.take_prefix _ _, hJx3⟩⟩
    · obtain rfl : i = -1 := by omega
      have hkk : k = ls.length := by omega
      rw [List.take_of_length_le (by rw [backs_length]; omega)] at hJ
      clear hcell
      gi_wp2
      go_end0
      exact ⟨⟨_, rfl⟩, .inl hJ⟩

theorem back_stops (n : Nat) (hn : 1 ≤ n) (Bn : Nat) (v : Value) (ls : List Nat) (w0 w : World) (hb : Below w0.heap.size w0 w) (hBn : w.cell? ⟨Bn, 0, none⟩ = some v) (hL : SliceAt w0 v 1 (limbVals ls)) :
    SeqStopsK Fence.wide n Tryd.prog 189 #[.pointer (some ⟨Bn, 0, none⟩)] (fun x : Nat × Nat => #[Value.int .i64 (x.1 : Nat), .int .u32 (x.2 : Nat)]) (KeepBox w0.heap.size Bn) (fun ys => ys = backs ls) (fun pre => pre <+: backs ls) ls.length w := fun l J Jx W hW _ _ hY h0 =>
  back1_in n hn l Bn _ v ls J Jx hY w0 W (by rw [hW.cell (p := ⟨Bn, 0, none⟩) (World.block_lt_of_cell? w _ hBn)]; exact hBn) hL rfl (hb.trans (hW.mono hb.size)) h0

/-- The four bytes of a limb, the highest first. -/
def limbBytes (x : Nat) : List UInt8 := [UInt8.ofNat (x / 16777216), UInt8.ofNat (x / 65536), UInt8.ofNat (x / 256), UInt8.ofNat x]
def backBytes (pre : List (Nat × Nat)) : List UInt8 := pre.flatMap fun p => limbBytes p.2

theorem nv_limbBytes (x : Nat) (h : x < 4294967296) : nv (limbBytes x) = x := by
  simp only [limbBytes, nv, List.foldl_cons, List.foldl_nil, UInt8.toNat_ofNat']
  omega
theorem backBytes_backs (l : List Nat) : backBytes (backs l) = l.reverse.flatMap limbBytes := by
  have : (backs l).map (·.2) = l.reverse := by
    apply List.ext_getElem
    · simp [backs]
    · intro i h1 h2
      have : i < l.length := by simpa [backs] using h1
      simp [backs, List.getElem?_eq_getElem (show l.length - 1 - i < l.length by omega)]
  rw [← this, List.flatMap_map]; rfl
theorem nv_back (l : List Nat) (h : Lim l) : nv (l.reverse.flatMap limbBytes) = lv l ∧ (l.reverse.flatMap limbBytes).length = 4 * l.length := by
  induction l with
  | nil => exact ⟨rfl, rfl⟩
  | cons x l ih =>
    obtain ⟨h1, h2⟩ := lim_cons.1 h
    obtain ⟨i1, i2⟩ := ih h2
    rw [List.reverse_cons, List.flatMap_append, List.length_append, i2, nv_append, i1]
    simp only [List.flatMap_cons, List.flatMap_nil, List.append_nil, List.length_cons, nv_limbBytes x h1, lv_cons]
    simp only [limbBytes, List.length_cons, List.length_nil]
    exact ⟨by omega, by omega⟩

def RetNat (w : World) (n : Nat) (e : Ending) (w' : World) : Prop := e = .returned (.string (ns n)) ∧ Below w.heap.size w w'

theorem el_bytes : ElemT Tryd.prog 156 5 1 1 (.int .u8 0) := ElemT.mk' Tryd.underlying156 (by kernel_rfl) rfl (by decide)

set_option maxRecDepth 100000 in
set_option maxHeartbeats 1000000 in
theorem lnat_any (ls : List Nat) (v : Value) (w : World) (h : Limbs w v ls) (hlen : ls.length ≤ 1099511627776) :
    Calls Tryd.prog 132 #[v] w (RetNat w (lv ls)) := by
  obtain ⟨hs, hlim⟩ := h
  obtain ⟨a, cap, rfl, hnc, hcm, hcell⟩ := SliceAt.open1 hs
  refine (callsIn_wide (n := 9)).1 ?_
  refine callsIn_of_wp_marks Tryd.func132 rfl trivial ?_ rfl
  simp only [Tryd.ntmps132, List.size_toArray, List.length_cons, List.length_nil, Nat.reduceAdd, Nat.reduceSub, Array.replicate_succ, Array.replicate_zero, List.push_toArray, List.append_toArray, List.nil_append, List.cons_append]
  clear hcell
  have hmk := make_cap el_bytes w .i64 .i64 (4 * ls.length) (by omega) (by decide)
  rw [show ((4 * ls.length : Nat) : Int) = 4 * (ls.length : Int) by omega] at hmk
  gi_wp2_with (refine ⟨trivial, ?_⟩; gi_at_call 171; refine (callsIn_wide.2 (backward_any _ _ _ _)).mono ?_; rintro e w' ⟨rfl, rfl⟩)
  clear hmk
  have hB0 : Below w.heap.size w (((w.alloc (Obj.cells (madeCells #[Value.int IntKind.u8 0] (4 * ls.length)) 5)).alloc (Obj.cells #[Value.slice (some ⟨w.heap.size, 0, none⟩) 0 (4 * ls.length)] 156)).alloc (.cells #[.slice a ls.length cap] 146)) :=
    (((Below.refl _ w).alloc (Nat.le_refl _) _).alloc (by simp) _).alloc (by simp; omega) _
  have hown0 := ((World.ownsRow_made (base := w.heap.size) (e := 5) (size := 1) w (madeCells #[Value.int IntKind.u8 0] (4 * ls.length)) (4 * ls.length) (Nat.le_refl _) (by unfold maxLen; omega) (by simp [size_madeCells])).alloc (Obj.cells #[Value.slice (some ⟨w.heap.size, 0, none⟩) 0 (4 * ls.length)] 156)).alloc (.cells #[.slice a ls.length cap] 146)
  have hblk0 := (Blk.new (w.alloc (Obj.cells (madeCells #[Value.int IntKind.u8 0] (4 * ls.length)) 5)) 156 [Value.slice (some ⟨w.heap.size, 0, none⟩) 0 (4 * ls.length)]).alloc (.cells #[.slice a ls.length cap] 146)
  have hbxb := Blk.new ((w.alloc (Obj.cells (madeCells #[Value.int IntKind.u8 0] (4 * ls.length)) 5)).alloc (Obj.cells #[Value.slice (some ⟨w.heap.size, 0, none⟩) 0 (4 * ls.length)] 156)) 146 [.slice a ls.length cap]
  have hbx0 : (((w.alloc (Obj.cells (madeCells #[Value.int IntKind.u8 0] (4 * ls.length)) 5)).alloc (Obj.cells #[Value.slice (some ⟨w.heap.size, 0, none⟩) 0 (4 * ls.length)] 156)).alloc (.cells #[.slice a ls.length cap] 146)).cell? ⟨w.heap.size + 1 + 1, 0, none⟩ = some (.slice a ls.length cap) := by
    have := hbxb.cell 0 (by simp)
    simpa using this
  refine wpIn_rangeFunc_ownG rfl (by decide) (gf := 189) (lb := #[.pointer (some ⟨w.heap.size + 1 + 1, 0, none⟩)]) rfl trivial (enters_of Tryd.func189 (by kernel_rfl) rfl)
    (back_stops (9 - 1) (by decide) _ _ ls w _ hB0 hbx0 hs) keepBox_t (keepBox_b (by simp; omega)) (Below.refl _ _) (fun _ => rfl)
    (fun pre W => (∃ bv, Blk W (w.heap.size + 1) 156 [bv] ∧ W.ownsRow w.heap.size 5 1 bv (4 * pre.length) (byteVals (backBytes pre)) ∧ Blk W (w.heap.size + 1 + 1) 146 [.slice a ls.length cap]) ∧ Below w.heap.size w W)
    (fun _ _ _ => False)
    (ownFrom_of (Nat.le_refl _) (by simp; omega) (fun s W W' h hc => by obtain ⟨bv, h1, h2, h3⟩ := h; exact ⟨bv, hc.blk h1, hc.owns h2, hc.blk h3⟩))
    (fun _ _ _ _ _ hs _ _ => hs)
    ⟨⟨_, by simpa using hblk0, hown0, by simpa using hbxb⟩, hB0⟩
    (fun x => { tmps := #[.slice a ls.length cap, undef, .string ⟨#[]⟩, .pointer (some ⟨w.heap.size + 1, 0, none⟩), undef, .int .u32 (x.2 : Nat), .slice a ls.length cap, .int .i64 ls.length, .int .i64 (4 * (ls.length : Int)), .slice (some ⟨w.heap.size, 0, none⟩) 0 (4 * ls.length), .slice a ls.length cap, .func (.func 189) #[] #[.pointer (some ⟨w.heap.size + 1 + 1, 0, none⟩)], .int .i64 (x.1 : Nat), .int .u32 (x.2 : Nat), undef, undef, undef, undef, undef, undef, undef, undef, undef, undef, undef, undef, undef, undef, undef, undef, undef], defers := [] }) ?assign ?body ?done ?stop
  case assign =>
    intro l x W K hK
    gi_wp2
    exact hK
  case body =>
    rintro l pre x W ⟨⟨bv, hblk, hown, hbx⟩, hB⟩ hlt
    have hc := hblk.cell 0 (by simp)
    simp only [List.getElem_cons_zero] at hc
    have hf := hblk.frozen 0
    have hsz : w.heap.size ≤ W.heap.size := hB.size
    gi_wp2_with (gi_at_builtin; go_must (refine wpListIn_app rfl _ _ 156 rfl w.heap.size el_bytes _ _ _ rfl (hown.alloc _) _ rfl 4 [.int .u8 ((x.2 : Int) / 16777216 % 256), .int .u8 ((x.2 : Int) / 65536 % 256), .int .u8 ((x.2 : Int) / 256 % 256), .int .u8 ((x.2 : Int) % 256)] (SliceAt.lit _ _ 4 1 _ rfl (by decide)) rfl (by simp [Value.oneCell']) (by omega) (by decide) (le_alloc hsz _) ?_); intro v' w' hown' hg; obtain ⟨a', c', rfl⟩ := owns_shape hown'; have hblk' := (hblk.alloc _).grown hg (Blk.not_row hblk (by decide) hown); have hc' := hblk'.cell 0 (by simp); have hf' := hblk'.frozen 0; simp only [List.getElem_cons_zero] at hc')
    have hb1 : Below w.heap.size W (w'.setCell ⟨w.heap.size + 1, 0, none⟩ (.slice a' (4 * pre.length + 4) c')) :=
      (((Below.refl _ W).alloc hsz _).grown hg (le_alloc hsz _) (fun k hk => (hown.lt k hk).1)).setCell (p := ⟨w.heap.size + 1, 0, none⟩) (by simp) _
    have hbx1 := ((hbx.alloc (.cells #[.int .u8 ((x.2 : Int) / 16777216 % 256), .int .u8 ((x.2 : Int) / 65536 % 256), .int .u8 ((x.2 : Int) / 256 % 256), .int .u8 ((x.2 : Int) % 256)] 5)).grown hg (Blk.not_row hbx (by decide) hown)).setOther (a := ⟨w.heap.size + 1, 0, none⟩) (by simp) (.slice a' (4 * pre.length + 4) c')
    refine ⟨((keepsFrom_alloc _ _ _).trans (keepsFrom_app (hown.alloc _) hg)).trans (keepsFrom_setCell _ _ _ _), keepBox_of hb1 hbx hbx1, ⟨_, hblk'.set 0 _, ?_, hbx1⟩, hB.trans hb1⟩
    have := owns_setCell hblk' (by decide) hown' 0 (.slice a' (4 * pre.length + 4) c')
    rw [List.length_append]
    simpa [backBytes, limbBytes, byteVals, Nat.mul_add] using this
  case done =>
    rintro D ys W hD rfl ⟨⟨bv, hblk, hown, hbx⟩, hB⟩ hK
    have hc := hblk.cell 0 (by simp)
    simp only [List.getElem_cons_zero] at hc
    have hconv := conv_bytes (P := Tryd.prog) (SliceAt.owned hown) 156 5 22 Tryd.underlying156 Tryd.underlying5 Tryd.underlying22
    obtain ⟨hnv, hbl⟩ := nv_back ls hlim
    rw [← backBytes_backs] at hnv hbl
    have hsize : (⟨(backBytes (backs ls)).toArray⟩ : ByteArray).size ≤ maxLen := by
      show (backBytes (backs ls)).toArray.size ≤ maxLen
      rw [List.size_toArray, hbl]; unfold maxLen; omega
    have HN : Hid (vn ⟨(backBytes (backs ls)).toArray⟩ = lv ls) := hnv
    clear hnv hbl
    gi_wp2_with (refine ⟨trivial, ?_⟩; gi_at_call 130; refine (callsIn_wide.2 (trim_any _ _ hsize)).mono ?_; rintro e w' ⟨rfl, rfl⟩)
    refine ⟨by simp, .inl ⟨_, _, rfl, run_takeDeferred hK, ?_⟩⟩
    refine ⟨_, results_tmp rfl _ _ _, ?_⟩
    exact ⟨ret_str (by rw [HN.out]), below_putObj hB (by simp at hD; omega) hB.size _⟩
  case stop =>
    rintro D c pre W _ _ h _
    exact h.elim
end Go.Proofs.YtlloghbaggdhnaaDoor
