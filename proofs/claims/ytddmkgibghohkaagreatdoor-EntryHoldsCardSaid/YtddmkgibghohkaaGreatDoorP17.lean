/-
  Contract: name.Realm.
-/
import Derived.Test.YtddmkgibghohkaaGreatDoorP16
import Derived.Test.YtddmkgibghohkaaGreatDoorP15
import Derived.Test.YtddmkgibghohkaaGreatDoorP8
set_option linter.unusedSimpArgs false
set_option linter.unusedVariables false
namespace Go.Proofs.YtddmkgibghohkaaGreatDoor
open Go Go.RowKit
attribute [local go_sem] Oper.semAt_some

def realmChar (c : UInt8) : Bool := (decide (65 ≤ c.toNat) && decide (c.toNat ≤ 90)) || (decide (48 ≤ c.toNat) && decide (c.toNat ≤ 57)) || c == 45
def labelB (l : ByteArray) : Bool := decide (0 < l.size) && l.data.toList.all realmChar
def allL (pre : List Sm) : Bool := (pre.map (·.1)).all labelB
theorem allL_snoc (pre : List Sm) (x : Sm) : allL (pre ++ [x]) = (allL pre && labelB x.1) := by simp [allL]
theorem allL_no (pre : List Sm) (x : Sm) (h : labelB x.1 = false) : allL (pre ++ [x]) = false := by rw [allL_snoc, h]; simp
theorem allL_yes (pre : List Sm) (x : Sm) (h0 : allL pre = true) (h : labelB x.1 = true) : allL (pre ++ [x]) = true := by rw [allL_snoc, h, h0]; rfl
def realmB (s : ByteArray) : Bool := sizedB s && (splitB s).all labelB

theorem empty_size {x : ByteArray} (h : x.toList = []) : x.size = 0 := by
  rw [ByteArray.toList_eq] at h
  simpa using congrArg List.length h
theorem size_pos {x : ByteArray} (h : ¬ x.toList = []) : 0 < x.size := by
  rcases Nat.eq_zero_or_pos x.size with h0 | h0
  · exact absurd (by rw [ByteArray.toList_eq]; exact List.eq_nil_of_length_eq_zero (by simpa using h0)) h
  · exact h0

theorem realm_cases (c : UInt8) :
    ((65 : Int) ≤ (c.toNat : Int) ∧ (c.toNat : Int) ≤ 90 ∧ realmChar c = true) ∨ ((48 : Int) ≤ (c.toNat : Int) ∧ (c.toNat : Int) ≤ 57 ∧ realmChar c = true) ∨
    ((c.toNat : Int) < 48 ∧ ((c.toNat : Int) != 45) = false ∧ realmChar c = true) ∨ ((c.toNat : Int) < 48 ∧ ((c.toNat : Int) != 45) = true ∧ realmChar c = false) ∨
    ((57 : Int) < (c.toNat : Int) ∧ (c.toNat : Int) < 65 ∧ realmChar c = false) ∨ ((90 : Int) < (c.toNat : Int) ∧ ((c.toNat : Int) != 45) = true ∧ realmChar c = false) := by
  have hc : (c == 45) = decide (c.toNat = 45) := by rw [Bool.eq_iff_iff]; simp [← UInt8.toNat_inj]
  unfold realmChar
  rw [hc]
  simp
  omega

set_option maxHeartbeats 1000000 in
set_option maxRecDepth 100000 in
theorem realm_no (s : ByteArray) (w : World) (hs : s.size ≤ 140737488355328) (h : sizedB s = false) : Calls Tryz.prog 215 #[.string s] w (Ret w (.bool false)) := by
  go_enter Tryz.func215, Tryz.ntmps215
  go_wp2_with fail
  refine (sized_c s _ hs false (Lib.hid h.symm)).mono ?_
  rintro e w1 ⟨rfl, hg⟩
  have b0 : Box w1 w.heap.size 4 (.bool false) := (Box.new w _ _).gr hg
  have c0 := b0.cell
  have f0 := b0.frozen
  go_wp2
  refine bodyPost_ret (v := .bool false) ?_ rfl ⟨rfl, ?_⟩
  · have := ((b0.set (.bool false)).cell)
    simp [results, Tryz.results215, go_sem, this]
  · exact ((Gr.alloc _ _).trans hg : Below _ _ _).setCell (Nat.le_refl _) _

set_option maxHeartbeats 1000000 in
set_option maxRecDepth 100000 in
theorem realm_yes (s : ByteArray) (w : World) (hs : s.size ≤ 140737488355328) (h : sizedB s = true) (B : Bool) (HB : Hid (B = (splitB s).all labelB)) : Calls Tryz.prog 215 #[.string s] w (Ret w (.bool B)) := by
  refine (callsIn_wide (n := 9)).1 ?_
  refine callsIn_of_wp_marks Tryz.func215 rfl trivial ?_ rfl
  simp only [Tryz.ntmps215, List.size_toArray, List.length_cons, List.length_nil, Nat.reduceAdd, Nat.reduceSub, Array.replicate_succ, Array.replicate_zero, List.push_toArray, List.append_toArray, List.nil_append, List.cons_append]
  gi_wp2_with fail
  refine ⟨trivial, ?_⟩
  refine (callsIn_wide.2 (sized_c s _ hs true (Lib.hid h.symm))).mono ?_
  rintro e w1 ⟨rfl, hg⟩
  have b0 : Box w1 w.heap.size 4 (.bool false) := (Box.new w _ _).gr hg
  have HB0 := Lib.hid b0
  clear b0
  gi_wp2_with fail
  refine ⟨trivial, ?_⟩
  refine (callsIn_wide.2 (splitSeqPub_c _ _)).mono ?_
  rintro e w2 ⟨rfl, rfl⟩
  gi_wp2_with fail
  have x1 := ((Box.new w1 9 (.string s)).alloc (.cells #[.string ⟨#[46]⟩] 9)).alloc (.cells #[.int .i64 0] 3)
  have x2 := (Box.new (w1.alloc (.cells #[.string s] 9)) 9 (.string ⟨#[46]⟩)).alloc (.cells #[.int .i64 0] 3)
  have x3 := Box.new ((w1.alloc (.cells #[.string s] 9)).alloc (.cells #[.string ⟨#[46]⟩] 9)) 3 (.int .i64 0)
  simp only [World.size_alloc] at x2 x3
  obtain ⟨W2, hW2⟩ : ∃ W2, W2 = ((w1.alloc (.cells #[.string s] 9)).alloc (.cells #[.string ⟨#[46]⟩] 9)).alloc (.cells #[.int .i64 0] 3) := ⟨_, rfl⟩
  rw [← hW2] at x1 x2 x3 ⊢
  have g2 : Gr w1 W2 := by rw [hW2]; exact ((Gr.alloc _ _).trans (Gr.alloc _ _)).trans (Gr.alloc _ _)
  have gw : Gr w w1 := (Gr.alloc _ _).trans hg
  have z1 : w.heap.size < w1.heap.size := by have := hg.size; simp at this; omega
  have z2 : w1.heap.size + 1 + 1 < W2.heap.size := x3.lt
  have B0 := HB0.out.gr g2
  clear hW2
  refine wpIn_rangeFunc_X (P := Tryz.prog) (gf := 297) rfl (enters_of Tryz.func297 (by kernel_rfl) rfl)
    (split_seq s w1.heap.size (w1.heap.size + 1) (w1.heap.size + 1 + 1) W2 hs x1 x2 x3 (by omega) (by omega)) (by omega) (fun k hk => by omega)
    (fun h k => ⟨k.1.trans h.1, k.2.1.trans h.2.1, k.2.2.trans h.2.2⟩)
    (fun W l o o' hl _ _ => ⟨World.putObj_heap_other (by omega), World.putObj_heap_other (by omega), World.putObj_heap_other (by omega)⟩)
    (Gr.refl _) (fun _ => rfl)
    (fun pre W => Box W w.heap.size 4 (.bool false) ∧ allL pre = true ∧ Below w.heap.size w W)
    (fun c pre W => c = .ret ∧ Box W w.heap.size 4 (.bool false) ∧ allL pre = false ∧ Below w.heap.size w W)
    ?hI ?hIx ⟨B0, rfl, (gw.trans g2)⟩ (fun x a' _ => a' = { tmps := #[.string s, undef, .pointer (some ⟨w.heap.size, 0, none⟩), .string x.1, undef, undef, .string s, .bool true, .bool false, .string s,
      .func (.func 297) #[] #[.pointer (some ⟨w1.heap.size + 1, 0, none⟩), .pointer (some ⟨w1.heap.size, 0, none⟩), .pointer (some ⟨w1.heap.size + 1 + 1, 0, none⟩)], .string x.1, undef, undef, undef, undef, undef, undef, undef, undef, undef, undef, undef, undef, undef, undef, undef, undef, undef, undef, undef, undef, undef, undef, undef, undef, undef, undef, undef, undef, undef], defers := [] }) ?assign ?hAx ?body ?done ?stop
  case hI =>
    rintro pre W W' ⟨hb, ha, hbl⟩ g
    have hn : ∀ k, k ≤ w.heap.size → ¬ TurnX (fun k => k = w1.heap.size) W2.heap.size W k := fun k hk h => by rcases h with h | ⟨h, _⟩ <;> omega
    exact ⟨(g.block _ hb.lt (hn _ (Nat.le_refl _))).trans hb, ha, hbl.trans ⟨g.os, g.tape, g.output, g.size, fun k hk => g.block k (by have := hbl.size; omega) (hn k (by omega))⟩⟩
  case hIx =>
    rintro c pre W W' ⟨hc, hb, ha, hbl⟩ g
    have hn : ∀ k, k ≤ w.heap.size → ¬ TurnX (fun k => k = w1.heap.size) W2.heap.size W k := fun k hk h => by rcases h with h | ⟨h, _⟩ <;> omega
    exact ⟨hc, (g.block _ hb.lt (hn _ (Nat.le_refl _))).trans hb, ha, hbl.trans ⟨g.os, g.tape, g.output, g.size, fun k hk => g.block k (by have := hbl.size; omega) (hn k (by omega))⟩⟩
  case assign =>
    intro l pre x W K hi hK
    gi_wp2
    exact hK _ _ (KeepsFrom.refl _ _) ⟨rfl, rfl, rfl⟩ hi rfl
  case hAx => exact fun x a' _ W W' h _ => h
  case body =>
    rintro l pre ⟨x, hxs⟩ a' W ⟨hb, ha, hbl⟩ rfl hl hr
    dsimp only
    have HA := Lib.hid ha
    have c0 := hb.cell
    have f0 := hb.frozen
    clear ha hr
    have hbs : Below w.heap.size w (W.setCell ⟨w.heap.size, 0, none⟩ (.bool false)) := hbl.setCell (Nat.le_refl _) _
    have hks : KeepsFrom W2.heap.size W (W.setCell ⟨w.heap.size, 0, none⟩ (.bool false)) := (KeepsOthers.setCell _ _ _).from _
    have hbx := hb.set (.bool false)
    by_cases hx : x.toList = []
    · have hx2 : x.toList.isEmpty = true := by simp [hx]
      gi_wp2
      exact ⟨hks, rfl, hbx, allL_no _ _ (by simp [labelB, empty_size hx]), hbs⟩
    · have hx2 : x.toList.isEmpty = false := by simp [hx]
      have hpos := size_pos hx
      have HK := Lib.hid hks
      have HX := Lib.hid hbx
      have HBS := Lib.hid hbs
      clear hx hks hbx hbs
      gi_wp2
      gi_loopw [4, 5, 16] (fun _ _ i wr => W = wr ∧ ∃ k : Nat, k ≤ x.size ∧ i = .int .i64 k ∧ (x.data.toList.take k).all realmChar = true) (fun _ _ i _ => x.size - (intOf i).toNat)
      case atStart => exact ⟨rfl, 0, Nat.zero_le _, rfl, by simp⟩
      case round =>
        obtain ⟨rfl, k, hk, rfl, hall⟩ := hrel
        have HL := Lib.hid hall
        clear hall
        by_cases hlt : k < x.size
        · rcases realm_cases x[k] with ⟨a1, a2, hv⟩ | ⟨a1, a2, hv⟩ | ⟨a1, a2, hv⟩ | ⟨a1, a2, hv⟩ | ⟨a1, a2, hv⟩ | ⟨a1, a2, hv⟩
          all_goals have HV := Lib.hid hv
          all_goals clear hv
          · gi_wp2
            go_roundw
            case rel => exact ⟨trivial, k + 1, by omega, by go_num, all_snoc hlt HL.out HV.out⟩
            case measure => simp [intOf]; omega
          · gi_wp2
            go_roundw
            case rel => exact ⟨trivial, k + 1, by omega, by go_num, all_snoc hlt HL.out HV.out⟩
            case measure => simp [intOf]; omega
          · gi_wp2
            go_roundw
            case rel => exact ⟨trivial, k + 1, by omega, by go_num, all_snoc hlt HL.out HV.out⟩
            case measure => simp [intOf]; omega
          all_goals
            gi_wp2
            exact ⟨HK.out, rfl, HX.out, allL_no _ _ (by simp only [labelB, all_not hlt HV.out, Bool.and_false]), HBS.out⟩
        · gi_wp2
          have e := all_end hlt HL.out
          exact ⟨KeepsFrom.refl _ _, ⟨rfl, rfl, rfl⟩, hb, allL_yes _ _ HA.out (by simp [labelB, e, hpos]), hbl⟩
  case done =>
    rintro D xs W hD hxs ⟨hb, ha, hbl⟩ hK
    have HX := Lib.hid hxs
    have HA := Lib.hid ha
    clear hxs ha
    have c0 := hb.cell
    have f0 := hb.frozen
    gi_wp2
    have hK2 : (W.setCell ⟨w.heap.size, 0, none⟩ (.bool true)).heap[D]? = some (.deferred (some [])) := (KeepsOthers.setCell _ _ _).same D _ hK rfl
    have hb2 := hb.set (.bool true)
    refine ⟨by simp, .inl ⟨_, _, rfl, run_takeDeferred hK2, ?_⟩⟩
    have hb3 : Box ((W.setCell ⟨w.heap.size, 0, none⟩ (.bool true)).putObj D (.deferred none)) w.heap.size 4 (.bool true) := (World.putObj_heap_other (by omega)).trans hb2
    have c3 := hb3.cell
    refine ⟨.bool true, ?_, ?_⟩
    · simp [results, Tryz.results215, go_sem, c3]
    · refine ⟨ret_bool ?_, (hbl.setCell (Nat.le_refl _) _).trans ⟨rfl, rfl, rfl, by simp, fun k hk => World.putObj_heap_other (by omega)⟩⟩
      rw [HB.out, ← HX.out]
      exact HA.out.symm
  case stop =>
    rintro D c pre W hD hpre ⟨rfl, hb, ha, hbl⟩ hK
    have HP := Lib.hid hpre
    have HA := Lib.hid ha
    clear hpre ha
    gi_wp2
    refine ⟨by simp, .inl ⟨_, _, rfl, run_takeDeferred hK, ?_⟩⟩
    have hb3 : Box (W.putObj D (.deferred none)) w.heap.size 4 (.bool false) := (World.putObj_heap_other (by omega)).trans hb
    have c3 := hb3.cell
    refine ⟨.bool false, ?_, ?_⟩
    · simp [results, Tryz.results215, go_sem, c3]
    · refine ⟨ret_bool ?_, hbl.trans ⟨rfl, rfl, rfl, by simp, fun k hk => World.putObj_heap_other (by omega)⟩⟩
      obtain ⟨rest, hr⟩ := HP.out
      rw [HB.out, ← hr, List.all_append]
      have e : (pre.map (·.1)).all labelB = false := HA.out
      rw [e]; rfl

theorem realm_c (s : ByteArray) (w : World) (hs : s.size ≤ 140737488355328) (B : Bool) (HB : Hid (B = realmB s)) : Calls Tryz.prog 215 #[.string s] w (Ret w (.bool B)) := by
  have e := HB.out
  unfold realmB at e
  by_cases h : sizedB s = true
  · rw [h, Bool.true_and] at e
    exact realm_yes s w hs h B (Lib.hid e)
  · have h' : sizedB s = false := by simpa using h
    rw [h', Bool.false_and] at e
    rw [e]
    exact realm_no s w hs h'
end Go.Proofs.YtddmkgibghohkaaGreatDoor
/- Contracts: names. -/
namespace Go.Proofs.YtddmkgibghohkaaGreatDoor
open Go Go.Sx Go.Proofs
set_option maxRecDepth 100000
set_option maxHeartbeats 4000000
set_option linter.unusedSimpArgs false

def szB (s : ByteArray) : Bool := decide (1 ≤ (s.size : Int)) && decide ((s.size : Int) ≤ 32)
theorem szd_c (s : ByteArray) : PC Tryz.prog 252 [rS s] (rB (szB s)) := by
 refine pc_of rfl rfl ?_
 refine runE mixed fi252 ?_
 grind [szB]
def visC (c : UInt8) : Bool := decide (33 ≤ (c.toNat : Int)) && decide ((c.toNat : Int) ≤ 126)
theorem visC_of {c : UInt8} (h1 : ¬ (c.toNat : Int) < 33) (h2 : ¬ 126 < (c.toNat : Int)) : visC c = true := by simp [visC]; omega
theorem visC_lo {c : UInt8} (h1 : (c.toNat : Int) < 33) : visC c = false := by simp [visC]; omega
theorem visC_hi {c : UInt8} (h1 : 126 < (c.toNat : Int)) : visC c = false := by simp [visC]; omega
def visB (s : ByteArray) : Bool := allN s.size fun j => visC (s.data.toList.getD j 0)
theorem prt_c (s : ByteArray) (hs : s.size ≤ 140737488355328) : PC Tryz.prog 216 [rS s] (rB (visB s && szB s)) := by
 refine pc_of rfl rfl ?_
 refine runE mixed fi216 ?_
 refine si_cnt 6 s.size (fun j => visC (s.data.toList.getD j 0) = true) ?_ fun i hi hall => ?_
 · with_reducible refine sxE ?_; trivial
 refine goE mixed ?_
 refine ⟨fun hlt => ⟨⟨by omega, hlt⟩, fun h33 => ⟨⟨by omega, hlt⟩, fun h126 => ?_, fun h126 => cnt_next hlt hall ?_ ?_⟩, fun h33 => ?_⟩, fun hge => callI_pure (szd_c s) ?_⟩
 · rw [show visB s = false from allN_false hlt (visC_hi h126)]; rfl
 · exact visC_of h33 h126
 · with_reducible refine sxE ?_
   rw [wrap_succ (by omega)]
 · rw [show visB s = false from allN_false hlt (visC_lo h33)]; rfl
 · refine goE mixed ?_
   rw [show visB s = true from allN_true fun j hj => hall j (by omega)]; rfl

def fidx (l : List Bool) : Int := if l.all id then -1 else ((l.findIdx (!·) : Nat) : Int)
theorem fidx_at {l : List Bool} {i : Nat} (hlt : i < l.length) (hall : ∀ j, j < i → l.getD j false = true) (h : l.getD i false = false) : fidx l = i := by
 have h1 : ¬ l.all id = true := fun ha => by
  rw [List.all_eq_true] at ha
  have := ha _ (getD_mem (d := false) hlt)
  rw [h] at this; cases this
 unfold fidx
 rw [if_neg h1, Int.ofNat_inj, List.findIdx_eq hlt]
 refine ⟨by rw [List.getD_eq_getElem?_getD, List.getElem?_eq_getElem hlt] at h; simpa using h, fun j hj => ?_⟩
 have := hall j hj
 rw [List.getD_eq_getElem?_getD, List.getElem?_eq_getElem (by omega)] at this
 simpa using this
theorem fidx_no {l : List Bool} (hall : ∀ j, j < l.length → l.getD j false = true) : fidx l = -1 := by
 have h1 : l.all id = true := by
  rw [List.all_eq_true]
  intro x hx
  obtain ⟨j, hj, rfl⟩ := List.getElem_of_mem hx
  have := hall j hj
  rw [List.getD_eq_getElem?_getD, List.getElem?_eq_getElem hj] at this
  simpa using this
 unfold fidx
 rw [if_pos h1]
theorem bindex_c (l : List Bool) (hl : l.length ≤ 1125899906842624) : PC Tryz.prog 278 [.isl .bool l, rB false] (rI (fidx l)) := by
 refine pc_of rfl rfl ?_
 refine runE mixed fi278 ?_
 refine si_cnt 8 l.length (fun j => l.getD j false = true) ?_ fun i hi hall => ?_
 · with_reducible refine sxE ?_; trivial
 refine goE mixed ?_
 refine ⟨fun hlt => ⟨⟨by omega, hlt⟩, fun h => ?_, fun h => cnt_next hlt hall ?_ ?_⟩, fun hge => ?_⟩
 · rw [fidx_at hlt hall h.symm]
 · simpa [Ty.dflt] using h
 · with_reducible refine sxE ?_
   rw [wrap_succ (by omega)]
 · rw [fidx_no (fun j hj => hall j (by omega))]
theorem bcontains_c (l : List Bool) (hl : l.length ≤ 1125899906842624) : PC Tryz.prog 251 [.isl .bool l, rB false] (rB (!l.all id)) := by
 refine pc_of rfl rfl ?_
 refine runE mixed fi251 ?_
 refine callI_pure (bindex_c l hl) ?_
 refine goE mixed ?_
 unfold fidx
 split
 · simp_all
 · rename_i h
   simp [h]
theorem nall_c (l : List Bool) (hl : l.length ≤ 1125899906842624) : PC Tryz.prog 214 [.isl .bool l] (rB (l.all id)) := by
 refine pc_of rfl rfl ?_
 refine runE mixed fi214 ?_
 refine callI_pure (bcontains_c l hl) ?_
 refine goE mixed ?_
 simp

theorem rlm_c (s : ByteArray) (hs : s.size ≤ 140737488355328) : PC Tryz.prog 215 [rS s] (rB (realmB s)) :=
 pc_calls (vs := [.string s]) (by kernel_rfl) fun w => realm_c s w hs _ (Lib.hid rfl)

def vPart (s : ByteArray) : Bool := visB s && szB s
def vPrin (p : Prin) : Bool := (decide (1 ≤ (p.1.length : Int)) && (decide ((p.1.length : Int) ≤ 4) && realmB p.2)) && allN p.1.length fun j => vPart (p.1.getD j ByteArray.empty)
theorem nvalid_c (p : Prin) (hp : PrinT.ok p) : PC Tryz.prog 166 [.agg (PrinT.cells p)] (rB (vPrin p)) := by
 obtain ⟨l, r⟩ := p
 refine pc_of rfl rfl ?_
 refine runE mixed fi166 ?_
 refine callR_pure (rlm_c r hp.2) ?_
 refine goE mixed ?_
 refine callR_hand 1 (by decide) ?_
 with_reducible refine sxE ?_
 refine callR_pure (nall_c _ (by simp)) ?_
 refine run_sound mixed 600 _ ?_
 simp (maxSteps := 3000000) only [List.all_cons, List.all_nil, id, go_sem, ↓zA, ↓reduceIte, ↓reduceDIte, reduceCtorEq, Nat.reduceAdd, Nat.reduceSub, Nat.reduceLeDiff, Nat.reduceLT, Nat.reduceEqDiff, Nat.reduceBEq, Nat.reduceMul, Int.reduceToNat, Int.reduceEq, Int.reduceLT, Int.reduceLE] <;> try simp only [zB]
 refine ⟨fun h => ?_, fun h => ?_⟩
 · rw [vPrin, h]; rfl
 refine si_cnt 22 l.length (fun j => vPart (l.getD j ByteArray.empty) = true) ?_ fun i hi hall => ?_
 · with_reducible refine sxE ?_; trivial
 have hl : l.length ≤ 1125899906842624 := hp.1.1
 refine goE mixed ?_
 refine ⟨fun hlt => ⟨⟨by omega, hlt⟩, callI_pure (prt_c _ (hp.1.2 _ (getD_mem hlt))) ?_⟩, fun hge => ?_⟩
 · refine goE mixed ?_
   refine ⟨fun hb => ?_, fun hb => cnt_next hlt hall hb ?_⟩
   · rw [vPrin, show (allN l.length fun j => vPart (l.getD j ByteArray.empty)) = false from allN_false hlt hb]; simp
   · with_reducible refine sxE ?_
     rw [wrap_succ (by omega)]
 · rw [vPrin, h, show (allN l.length fun j => vPart (l.getD j ByteArray.empty)) = true from allN_true fun j hj => hall j (by omega)]; rfl
end Go.Proofs.YtddmkgibghohkaaGreatDoor
/- Contracts: the text of a principal. -/
namespace Go.Proofs.YtddmkgibghohkaaGreatDoor
open Go Go.Sx Go.Proofs
set_option maxRecDepth 100000
set_option maxHeartbeats 4000000
set_option linter.unusedSimpArgs false

def specC (c : UInt8) : Bool := decide ((c.toNat : Int) = 47) || (decide ((c.toNat : Int) = 64) || decide ((c.toNat : Int) = 92))
theorem spec_c (c : UInt8) : PC Tryz.prog 254 [.raw (.int .u8 c.toNat)] (rB (specC c)) := by
 refine pc_of rfl rfl ?_
 refine runE mixed fi254 ?_
 grind [specC]
def escC (c : UInt8) : List UInt8 := if specC c then [92, c] else [c]
def escN (s : ByteArray) : Nat → List UInt8
 | 0 => []
 | j + 1 => escN s j ++ escC (s.data.toList.getD j 0)
def txtN (l : List ByteArray) : Nat → List UInt8
 | 0 => []
 | i + 1 => (txtN l i ++ if i > 0 then [47] else []) ++ escN (l.getD i ByteArray.empty) (l.getD i ByteArray.empty).size
def txt (p : Prin) : ByteArray := strOf (txtN p.1 p.1.length) ++ ⟨#[64]⟩ ++ p.2
theorem escC_len (c : UInt8) : (escC c).length ≤ 2 := by unfold escC; split <;> simp
theorem escN_len (s : ByteArray) : ∀ j, (escN s j).length ≤ 2 * j
 | 0 => by simp [escN]
 | j + 1 => by have := escN_len s j; have := escC_len (s.data.toList.getD j 0); simp only [escN, List.length_append]; omega
theorem txtN_len (l : List ByteArray) (h : ∀ x ∈ l, x.size ≤ 32) : ∀ i, i ≤ l.length → (txtN l i).length ≤ 65 * i
 | 0, _ => by simp [txtN]
 | i + 1, hi => by
  have h1 := txtN_len l h i (by omega)
  have h2 := h _ (getD_mem (d := ByteArray.empty) (show i < l.length by omega))
  have h3 := escN_len (l.getD i ByteArray.empty) (l.getD i ByteArray.empty).size
  have h4 : (if i > 0 then [(47 : UInt8)] else []).length ≤ 1 := by split <;> simp
  simp only [txtN, List.length_append]
  omega

theorem strOf_size (xs : List UInt8) : (strOf xs).size = xs.length := by simp [strOf, ByteArray.size]
theorem text_c (p : Prin) (hp : PrinT.ok p) (hv : vPrin p = true) : PC Tryz.prog 217 [.agg (PrinT.cells p)] (.tup [rS (txt p), rI 0]) := by
 obtain ⟨l, r⟩ := p
 have hl4 : l.length ≤ 4 := by simp [vPrin] at hv; omega
 have hsz : ∀ x ∈ l, x.size ≤ 32 := fun x hx => by
  obtain ⟨j, hj, rfl⟩ := List.getElem_of_mem hx
  simp only [vPrin, Bool.and_eq_true, allN_iff] at hv
  have := hv.2 j hj
  simp [vPart, szB, hj] at this
  omega
 refine pc_of rfl rfl ?_
 refine runE mixed fi217 ?_
 refine callI_pure (nvalid_c (l, r) hp) ?_
 rw [hv]
 refine goE mixed ?_
 refine si_nilrow 4 .u8 rfl rfl ?_
 with_reducible refine sxE ?_
 refine si_loopX (ι := Nat × List SObj) (fun x => [(4, .bld x.2.length .u8 (txtN l x.1).length), (14, rI x.1)]) (fun x => x.2 ++ [.row .u8 (txtN l x.1)]) (fun x => l.length - x.1) (fun x => x.1 ≤ l.length ∧ ∀ R, (x.2 ++ R)[0]? = some (.cells 24 [.isl .str l, .raw (.string r)])) (0, [.cells 24 [.isl .str l, .raw (.string r)]]) ⟨by simp, fun R => rfl⟩ rfl ?_ ?_
 · simp (maxSteps := 3000000) only [txtN, go_sem, ↓zA, ↓reduceIte, ↓reduceDIte, reduceCtorEq, Nat.reduceAdd, Nat.reduceSub, Nat.reduceLeDiff, Nat.reduceLT, Nat.reduceEqDiff, Nat.reduceBEq, Nat.reduceMul, Int.reduceToNat, Int.reduceEq, Int.reduceLT, Int.reduceLE] <;> try simp only [zB]
 rintro ⟨i, G⟩ ⟨hi, h0⟩
 dsimp only at hi h0
 have htl := txtN_len l hsz i hi
 have hll : l.length ≤ 4 := hl4
 refine run_sound mixed 600 _ ?_
 simp (maxSteps := 3000000) only [h0, List.append_assoc, getA, getA0, setA, setA0, List.length_append, Nat.add_assoc, go_sem, ↓zA, ↓reduceIte, ↓reduceDIte, reduceCtorEq, Nat.reduceAdd, Nat.reduceSub, Nat.reduceLeDiff, Nat.reduceLT, Nat.reduceEqDiff, Nat.reduceBEq, Nat.reduceMul, Int.reduceToNat, Int.reduceEq, Int.reduceLT, Int.reduceLE] <;> try simp only [zB]
 refine ⟨fun hlt => ⟨⟨by omega, hlt⟩, fun hpos => ⟨rfl, ⟨by omega, by omega⟩, ?_⟩, fun hpos => ?_⟩, fun hge => ?_⟩
 · have hss : (List.getD l i Ty.str.dflt).size ≤ 32 := hsz _ (getD_mem hlt)
   have hst : txtN l (i + 1) = (txtN l i ++ [47]) ++ escN (List.getD l i Ty.str.dflt) (List.getD l i Ty.str.dflt).size := by
    show (txtN l i ++ _) ++ _ = _
    first | rw [if_pos (by omega)] | rw [if_neg (by omega), List.append_nil]
    rfl
   generalize hs : List.getD l i Ty.str.dflt = s at *
   refine si_loopX (ι := Nat × List SObj) (fun x => [(4, .bld x.2.length .u8 ((txtN l i ++ [47]) ++ escN s x.1).length), (26, rI x.1)]) (fun x => x.2 ++ [.row .u8 ((txtN l i ++ [47]) ++ escN s x.1)]) (fun x => s.size - x.1) (fun x => x.1 ≤ s.size ∧ ∀ R, (x.2 ++ R)[0]? = some (.cells 24 [.isl .str l, .raw (.string r)])) (0, G ++ [.dead, .row .u8 [47]]) ⟨Nat.zero_le _, fun R => by simpa using h0 _⟩ (by simp [escN]) ?_ ?_
   · simp (maxSteps := 3000000) only [escN, List.append_assoc, getA, getA0, setA, setA0, List.length_append, Nat.add_assoc, go_sem, ↓zA, ↓reduceIte, ↓reduceDIte, reduceCtorEq, Nat.reduceAdd, Nat.reduceSub, Nat.reduceLeDiff, Nat.reduceLT, Nat.reduceEqDiff, Nat.reduceBEq, Nat.reduceMul, Int.reduceToNat, Int.reduceEq, Int.reduceLT, Int.reduceLE] <;> try simp only [zB]
   rintro ⟨j, G'⟩ ⟨hj, h0'⟩
   dsimp only at hj h0'
   have hln := escN_len s j
   refine run_sound mixed 600 _ ?_
   simp (maxSteps := 3000000) only [h0', List.append_assoc, getA, getA0, setA, setA0, List.length_append, Nat.add_assoc, go_sem, ↓zA, ↓reduceIte, ↓reduceDIte, reduceCtorEq, Nat.reduceAdd, Nat.reduceSub, Nat.reduceLeDiff, Nat.reduceLT, Nat.reduceEqDiff, Nat.reduceBEq, Nat.reduceMul, Int.reduceToNat, Int.reduceEq, Int.reduceLT, Int.reduceLE] <;> try simp only [zB]
   refine ⟨fun hlj => ⟨⟨by omega, hlj⟩, callI_pure (spec_c _) ?_⟩, fun hgj => ?_⟩
   · refine run_sound mixed 600 _ ?_
     simp (maxSteps := 3000000) only [h0', List.append_assoc, getA, getA0, setA, setA0, List.length_append, Nat.add_assoc, go_sem, ↓zA, ↓reduceIte, ↓reduceDIte, reduceCtorEq, Nat.reduceAdd, Nat.reduceSub, Nat.reduceLeDiff, Nat.reduceLT, Nat.reduceEqDiff, Nat.reduceBEq, Nat.reduceMul, Int.reduceToNat, Int.reduceEq, Int.reduceLT, Int.reduceLE] <;> try simp only [zB]
     refine ⟨fun hc => ⟨rfl, ⟨by omega, by omega⟩, ⟨by omega, hlj⟩, by simp, ⟨by omega, by omega⟩, ?_⟩, fun hc => ⟨⟨by omega, hlj⟩, by simp, ⟨by omega, by omega⟩, ?_⟩⟩
     · refine ⟨(j + 1, G' ++ [.dead, .row .u8 [92], .dead, .row .u8 [s.data.toList.getD j 0]]), ⟨hlj, fun R => by rw [List.append_assoc]; exact h0' _⟩, by dsimp only; omega, ?_, ?_⟩
       · simp only [UInt8.ofNat_toNat, escN, escC, hc, if_true, List.append_assoc, List.cons_append, List.nil_append]; rfl
       · simp (maxSteps := 3000000) only [escN, escC, hc, List.append_assoc, getA, getA0, setA, setA0, List.length_append, Nat.add_assoc, go_sem, ↓zA, ↓reduceIte, ↓reduceDIte, reduceCtorEq, Nat.reduceAdd, Nat.reduceSub, Nat.reduceLeDiff, Nat.reduceLT, Nat.reduceEqDiff, Nat.reduceBEq, Nat.reduceMul, Int.reduceToNat, Int.reduceEq, Int.reduceLT, Int.reduceLE] <;> try simp only [zB]
         rw [wrap_succ (by omega)]
     · refine ⟨(j + 1, G' ++ [.dead, .row .u8 [s.data.toList.getD j 0]]), ⟨hlj, fun R => by rw [List.append_assoc]; exact h0' _⟩, by dsimp only; omega, ?_, ?_⟩
       · simp only [UInt8.ofNat_toNat, escN, escC, hc, List.append_assoc, List.cons_append, List.nil_append]; rfl
       · simp (maxSteps := 3000000) only [escN, escC, hc, List.append_assoc, getA, getA0, setA, setA0, List.length_append, Nat.add_assoc, go_sem, ↓zA, ↓reduceIte, ↓reduceDIte, reduceCtorEq, Nat.reduceAdd, Nat.reduceSub, Nat.reduceLeDiff, Nat.reduceLT, Nat.reduceEqDiff, Nat.reduceBEq, Nat.reduceMul, Int.reduceToNat, Int.reduceEq, Int.reduceLT, Int.reduceLE] <;> try simp only [zB]
         rw [wrap_succ (by omega)]
   · obtain rfl : j = s.size := by omega
     refine ⟨(i + 1, G'), ⟨hlt, h0'⟩, by dsimp only; omega, ?_, ?_⟩
     · simp [hst]
     · simp (maxSteps := 3000000) only [hst, List.append_assoc, getA, getA0, setA, setA0, List.length_append, Nat.add_assoc, go_sem, ↓zA, ↓reduceIte, ↓reduceDIte, reduceCtorEq, Nat.reduceAdd, Nat.reduceSub, Nat.reduceLeDiff, Nat.reduceLT, Nat.reduceEqDiff, Nat.reduceBEq, Nat.reduceMul, Int.reduceToNat, Int.reduceEq, Int.reduceLT, Int.reduceLE] <;> try simp only [zB]
       rw [wrap_succ (by omega)]
 · have hss : (List.getD l i Ty.str.dflt).size ≤ 32 := hsz _ (getD_mem hlt)
   have hst : txtN l (i + 1) = txtN l i ++ escN (List.getD l i Ty.str.dflt) (List.getD l i Ty.str.dflt).size := by
    show (txtN l i ++ _) ++ _ = _
    first | rw [if_pos (by omega)] | rw [if_neg (by omega), List.append_nil]
    rfl
   generalize hs : List.getD l i Ty.str.dflt = s at *
   refine si_loopX (ι := Nat × List SObj) (fun x => [(4, .bld x.2.length .u8 (txtN l i ++ escN s x.1).length), (26, rI x.1)]) (fun x => x.2 ++ [.row .u8 (txtN l i ++ escN s x.1)]) (fun x => s.size - x.1) (fun x => x.1 ≤ s.size ∧ ∀ R, (x.2 ++ R)[0]? = some (.cells 24 [.isl .str l, .raw (.string r)])) (0, G) ⟨Nat.zero_le _, fun R => by simpa using h0 _⟩ (by simp [escN]) ?_ ?_
   · simp (maxSteps := 3000000) only [escN, List.append_assoc, getA, getA0, setA, setA0, List.length_append, Nat.add_assoc, go_sem, ↓zA, ↓reduceIte, ↓reduceDIte, reduceCtorEq, Nat.reduceAdd, Nat.reduceSub, Nat.reduceLeDiff, Nat.reduceLT, Nat.reduceEqDiff, Nat.reduceBEq, Nat.reduceMul, Int.reduceToNat, Int.reduceEq, Int.reduceLT, Int.reduceLE] <;> try simp only [zB]
   rintro ⟨j, G'⟩ ⟨hj, h0'⟩
   dsimp only at hj h0'
   have hln := escN_len s j
   refine run_sound mixed 600 _ ?_
   simp (maxSteps := 3000000) only [h0', List.append_assoc, getA, getA0, setA, setA0, List.length_append, Nat.add_assoc, go_sem, ↓zA, ↓reduceIte, ↓reduceDIte, reduceCtorEq, Nat.reduceAdd, Nat.reduceSub, Nat.reduceLeDiff, Nat.reduceLT, Nat.reduceEqDiff, Nat.reduceBEq, Nat.reduceMul, Int.reduceToNat, Int.reduceEq, Int.reduceLT, Int.reduceLE] <;> try simp only [zB]
   refine ⟨fun hlj => ⟨⟨by omega, hlj⟩, callI_pure (spec_c _) ?_⟩, fun hgj => ?_⟩
   · refine run_sound mixed 600 _ ?_
     simp (maxSteps := 3000000) only [h0', List.append_assoc, getA, getA0, setA, setA0, List.length_append, Nat.add_assoc, go_sem, ↓zA, ↓reduceIte, ↓reduceDIte, reduceCtorEq, Nat.reduceAdd, Nat.reduceSub, Nat.reduceLeDiff, Nat.reduceLT, Nat.reduceEqDiff, Nat.reduceBEq, Nat.reduceMul, Int.reduceToNat, Int.reduceEq, Int.reduceLT, Int.reduceLE] <;> try simp only [zB]
     refine ⟨fun hc => ⟨rfl, ⟨by omega, by omega⟩, ⟨by omega, hlj⟩, by simp, ⟨by omega, by omega⟩, ?_⟩, fun hc => ⟨⟨by omega, hlj⟩, by simp, ⟨by omega, by omega⟩, ?_⟩⟩
     · refine ⟨(j + 1, G' ++ [.dead, .row .u8 [92], .dead, .row .u8 [s.data.toList.getD j 0]]), ⟨hlj, fun R => by rw [List.append_assoc]; exact h0' _⟩, by dsimp only; omega, ?_, ?_⟩
       · simp only [UInt8.ofNat_toNat, escN, escC, hc, if_true, List.append_assoc, List.cons_append, List.nil_append]; rfl
       · simp (maxSteps := 3000000) only [escN, escC, hc, List.append_assoc, getA, getA0, setA, setA0, List.length_append, Nat.add_assoc, go_sem, ↓zA, ↓reduceIte, ↓reduceDIte, reduceCtorEq, Nat.reduceAdd, Nat.reduceSub, Nat.reduceLeDiff, Nat.reduceLT, Nat.reduceEqDiff, Nat.reduceBEq, Nat.reduceMul, Int.reduceToNat, Int.reduceEq, Int.reduceLT, Int.reduceLE] <;> try simp only [zB]
         rw [wrap_succ (by omega)]
     · refine ⟨(j + 1, G' ++ [.dead, .row .u8 [s.data.toList.getD j 0]]), ⟨hlj, fun R => by rw [List.append_assoc]; exact h0' _⟩, by dsimp only; omega, ?_, ?_⟩
       · simp only [UInt8.ofNat_toNat, escN, escC, hc, List.append_assoc, List.cons_append, List.nil_append]; rfl
       · simp (maxSteps := 3000000) only [escN, escC, hc, List.append_assoc, getA, getA0, setA, setA0, List.length_append, Nat.add_assoc, go_sem, ↓zA, ↓reduceIte, ↓reduceDIte, reduceCtorEq, Nat.reduceAdd, Nat.reduceSub, Nat.reduceLeDiff, Nat.reduceLT, Nat.reduceEqDiff, Nat.reduceBEq, Nat.reduceMul, Int.reduceToNat, Int.reduceEq, Int.reduceLT, Int.reduceLE] <;> try simp only [zB]
         rw [wrap_succ (by omega)]
   · obtain rfl : j = s.size := by omega
     refine ⟨(i + 1, G'), ⟨hlt, h0'⟩, by dsimp only; omega, ?_, ?_⟩
     · simp [hst]
     · simp (maxSteps := 3000000) only [hst, List.append_assoc, getA, getA0, setA, setA0, List.length_append, Nat.add_assoc, go_sem, ↓zA, ↓reduceIte, ↓reduceDIte, reduceCtorEq, Nat.reduceAdd, Nat.reduceSub, Nat.reduceLeDiff, Nat.reduceLT, Nat.reduceEqDiff, Nat.reduceBEq, Nat.reduceMul, Int.reduceToNat, Int.reduceEq, Int.reduceLT, Int.reduceLE] <;> try simp only [zB]
       rw [wrap_succ (by omega)]
 · obtain rfl : i = l.length := by omega
   refine ⟨⟨Nat.le_refl _, by omega⟩, ?_, ?_, ?_⟩
   · rw [List.take_length, strOf_size]; simp; omega
   · have : r.size ≤ 140737488355328 := hp.2
     rw [List.take_length, strOf_size]; simp; omega
   · rw [List.take_length]; rfl
end Go.Proofs.YtddmkgibghohkaaGreatDoor
/- Contracts: the encoding. -/
namespace Go.Proofs.YtddmkgibghohkaaGreatDoor
open Go Go.Sx Go.Proofs
set_option maxRecDepth 100000
set_option maxHeartbeats 4000000
set_option linter.unusedSimpArgs false

def byteOf (x : Int) : UInt8 := UInt8.ofNat (IntKind.u8.wrap x).toNat
theorem u8wrap (x : Int) : 0 ≤ IntKind.u8.wrap x ∧ IntKind.u8.wrap x < 256 := by
 have h : IntKind.u8.wrap x = x % 256 := by simp [IntKind.wrap, IntKind.bits, IntKind.signed]
 rw [h]
 omega
theorem byte_ob (x : Int) : ((UInt8.ofNat (IntKind.u8.wrap x).toNat).toNat : Int) = IntKind.u8.wrap x := by
 have := u8wrap x
 rw [UInt8.toNat_ofNat']; omega
theorem tag_ob (c : UInt8) : ((UInt8.ofNat c.toNat).toNat : Int) = c.toNat := by simp
def lenS (n : Nat) : List UInt8 :=
 if n < 128 then [byteOf n] else if n < 256 then [129, byteOf n] else if n < 65536 then [130, byteOf ((n : Int).fdiv 256), byteOf n] else [131, byteOf ((n : Int).fdiv 65536), byteOf ((n : Int).fdiv 256), byteOf n]
def tlv (tag : UInt8) (c : List UInt8) : List UInt8 := tag :: (lenS c.length ++ c)
def elemS (tag : UInt8) (parts : List (List UInt8)) : List UInt8 := if parts.flatten.length ≤ 16777215 then tlv tag parts.flatten else []
def flatN (parts : List (List UInt8)) (i : Nat) : List UInt8 := (parts.take i).flatten
theorem flatN_succ {parts : List (List UInt8)} {i : Nat} (h : i < parts.length) : flatN parts (i + 1) = flatN parts i ++ parts.getD i (Ty.slice .u8).dflt := by
 unfold flatN; rw [take_succ_getD (d := (Ty.slice .u8).dflt) h]; simp
theorem flatN_all (parts : List (List UInt8)) : flatN parts parts.length = parts.flatten := by unfold flatN; rw [List.take_length]
theorem flatN_le (parts : List (List UInt8)) (i : Nat) : (flatN parts i).length ≤ parts.flatten.length := by
 unfold flatN
 have := congrArg List.flatten (List.take_append_drop i parts)
 rw [List.flatten_append] at this
 rw [← this]; simp
def fitAt (parts : List (List UInt8)) (j : Nat) : Bool := decide ((flatN parts (j + 1)).length ≤ 16777215)

theorem element_c (tag : UInt8) (parts : List (List UInt8)) (hp : parts.length ≤ 1125899906842624) : PC Tryz.prog 195 [.raw (.int .u8 tag.toNat), .isl (.slice .u8) parts] (.isl .u8 (elemS tag parts)) := by
 refine pc_seal rfl rfl ?_
 refine runE mixed fi195 ?_
 refine si_cntD (fun i => [(5, rI ((flatN parts i).length)), (13, .raw (.int .i64 ((i : Nat) : Int)))]) (parts.length) (fun j => (fitAt parts) j = true) (by first | decide | simp) (fun i => rfl) ?_ fun i hi hall => ?_
 · (with_reducible refine sxE ?_ <;> try exact True.intro)
   all_goals (try rfl)
 have hwr : IntKind.i64.wrap ((i : Int) + 1) = ((i + 1 : Nat) : Int) := wrap_succ (by omega)
 refine goE mixed ?_
 have bad : i < (parts.length) → (fitAt parts) i = false → allN (parts.length) (fitAt parts) = false := fun hlt hv => allN_false hlt hv
 have fin : ¬ i < (parts.length) → allN (parts.length) (fitAt parts) = true := fun h => allN_true fun j hj => hall j (by omega)
 try dsimp only at bad fin hall
 have hn : (flatN parts i).length ≤ 16777215 := by
  cases i with
  | zero => simp [flatN]
  | succ j => have := hall j (by omega); simpa [fitAt] using this
 rw [wrapi (n := 16777215 - ((flatN parts i).length : Int)) (by omega), wrapi (n := ((flatN parts i).length : Int) + 5) (by omega)]
 refine ⟨fun hlt => ⟨⟨by omega, hlt⟩, fun hbig => ?_, fun hfit => ?_⟩, fun hge => ?_⟩
 · have h1 := flatN_le parts (i + 1)
   rw [flatN_succ hlt, List.length_append] at h1
   unfold elemS
   rw [if_neg (by omega)]
 · have h2 : ((flatN parts i).length : Int) + ((parts.getD i (Ty.slice .u8).dflt).length : Int) = ((flatN parts (i + 1)).length : Int) := by rw [flatN_succ hlt, List.length_append]; rfl
   have h3 : (flatN parts (i + 1)).length ≤ 16777215 := by omega
   refine ⟨hlt, next_all hall (by simpa [fitAt] using h3), ⟨_, rfl⟩, ?_⟩
   rw [h2, wrapi (n := ((flatN parts (i + 1)).length : Int)) (by omega)]
   with_reducible refine sx1 hwr ?_; trivial
 · obtain rfl : i = parts.length := by omega
   rw [flatN_all] at *
   have he : elemS tag parts = tag :: (lenS parts.flatten.length ++ flatN parts parts.length) := by unfold elemS tlv; rw [if_pos hn, flatN_all]
   refine ⟨⟨by omega, by omega, by omega⟩, tag_ob tag, fun h1 => ⟨byte_ob _, ?_⟩, fun h1 => ⟨fun h2 => ⟨?_, ?_⟩, fun h2 => ⟨fun h3 => ⟨?_, ?_⟩, fun h3 => ⟨?_, ?_⟩⟩⟩⟩
   any_goals (repeat' (first | exact byte_ob _ | exact rfl | with_reducible refine And.intro ?_ ?_))
   have hL : lenS parts.flatten.length = [byteOf parts.flatten.length] := by unfold lenS; rw [if_pos (by omega)]
   rotate_left
   have hL : lenS parts.flatten.length = [129, byteOf parts.flatten.length] := by unfold lenS; rw [if_neg (by omega), if_pos (by omega)]
   rotate_left
   have hL : lenS parts.flatten.length = [130, byteOf ((parts.flatten.length : Int).fdiv 256), byteOf parts.flatten.length] := by unfold lenS; rw [if_neg (by omega), if_neg (by omega), if_pos (by omega)]
   rotate_left
   have hL : lenS parts.flatten.length = [131, byteOf ((parts.flatten.length : Int).fdiv 65536), byteOf ((parts.flatten.length : Int).fdiv 256), byteOf parts.flatten.length] := by unfold lenS; rw [if_neg (by omega), if_neg (by omega), if_neg (by omega)]
   rotate_left
   all_goals
    refine si_accB (H := [_, _, _, _]) 8 .u8 (fun i => tag :: (lenS parts.flatten.length ++ flatN parts i)) (fun i => [(44, .any), (52, .any), (60, .any), (71, .any), (74, rI i)]) parts.length (fun _ => True) (by rw [hL]; simp [flatN, byteOf]) (by simp) rfl (fun i => rfl) ?_ fun i hi _ => ?_
    · with_reducible refine sx1 hL ?_
      simp [flatN]
    have hwr : IntKind.i64.wrap ((i : Int) + 1) = ((i + 1 : Nat) : Int) := wrap_succ (by omega)
    have hfl := flatN_le parts i
    have hll : (lenS parts.flatten.length).length ≤ 4 := by rw [hL]; simp
    refine goE mixed ?_
    have e1 : (lenS parts.flatten.length ++ flatN parts i).length = (lenS parts.flatten.length).length + (flatN parts i).length := List.length_append
    refine ⟨fun hlt => ?_, fun hge => ?_⟩
    · have h4 := flatN_le parts (i + 1)
      have h5 := flatN_succ hlt
      rw [h5, List.length_append] at h4
      refine ⟨⟨by omega, hlt⟩, ⟨by omega, by omega⟩, acc_next [.dead] [] hlt trivial (by rw [h5, ← List.append_assoc]; rfl) ?_⟩
      with_reducible refine sx3 hwr h5 ?_
      exact congrArg (SV.bld 5 .u8) (by omega)
    · obtain rfl : i = parts.length := by omega
      rw [List.take_of_length_le (Nat.le_refl _)]
      exact ⟨⟨Nat.le_refl _, by omega⟩, he.symm⟩
end Go.Proofs.YtddmkgibghohkaaGreatDoor
/- Contracts: the encoding of integers, times, strings, keys. -/
namespace Go.Proofs.YtddmkgibghohkaaGreatDoor
open Go Go.Sx Go.Proofs
set_option maxRecDepth 100000
set_option maxHeartbeats 4000000
set_option linter.unusedSimpArgs false

def byteAt (v : Int) (k : Nat) : UInt8 := byteOf (v.fdiv (2 ^ min (8 * k) 64))
def numN (v : Int) (size i : Nat) : List UInt8 := (List.range size).map fun j => if size - 1 - j < i then byteAt v (size - 1 - j) else 0
def numS (v : Int) (size : Nat) : List UInt8 := (List.range size).map fun j => byteAt v (size - 1 - j)
theorem numN_zero (v : Int) (size : Nat) : List.replicate size (0 : UInt8) = numN v size 0 := by
 apply List.ext_getElem
 · simp [numN]
 · intro j h1 h2; simp [numN]
theorem numN_all (v : Int) (size : Nat) : numN v size size = numS v size := by
 apply List.ext_getElem
 · simp [numN, numS]
 · intro j h1 h2
   simp [numN, numS]
   simp [numN] at h1
   intro h; omega
theorem numN_set {v : Int} {size i : Nat} (h : i < size) : (numN v size i).set (size - 1 - i) (byteAt v i) = numN v size (i + 1) := by
 apply List.ext_getElem
 · simp [numN]
 · intro j h1 h2
   simp [numN] at h2
   simp only [numN, List.getElem_set, List.getElem_map, List.getElem_range]
   split
   · rename_i e
     have : size - 1 - j = i := by omega
     rw [this, if_pos (by omega)]
   · rename_i e
     by_cases h3 : size - 1 - j < i
     · rw [if_pos h3, if_pos (by omega)]
     · rw [if_neg h3, if_neg (by omega)]
theorem number_c (v : Int) (size : Nat) (hs : size ≤ 64) : PC Tryz.prog 210 [rI v, rI size] (.isl .u8 (numS v size)) := by
 refine pc_seal rfl rfl ?_
 refine runE mixed fi210 ?_
 refine ⟨by omega, ?_⟩
 refine si_loopX (ι := Nat) (fun i => [(11, rI i)]) (fun i => [.row .u8 (numN v size i)]) (fun i => size - i) (fun i => i ≤ size) 0 (Nat.zero_le _) (by rw [← numN_zero]; rfl) ?_ ?_
 · with_reducible refine sxE ?_; trivial
 intro i hi
 have w3 : IntKind.i64.wrap (8 * (i : Int)) = ((8 * i : Nat) : Int) := by rw [wrapi (by omega)]; rfl
 have hwr : IntKind.i64.wrap ((i : Int) + 1) = ((i + 1 : Nat) : Int) := wrap_succ (by omega)
 have hln : (numN v size i).length = size := by simp [numN]
 by_cases hlt : i < size
 · have w1 : IntKind.i64.wrap ((size : Int) - 1) = ((size - 1 : Nat) : Int) := by rw [wrapi (by omega)]; omega
   have w2 : IntKind.i64.wrap (((size - 1 : Nat) : Int) - (i : Int)) = ((size - 1 - i : Nat) : Int) := by rw [wrapi (by omega)]; omega
   refine run_sound mixed 600 _ ?_
   simp (maxSteps := 3000000) only [w1, w2, w3, hln, go_sem, ↓zA, ↓reduceIte, ↓reduceDIte, reduceCtorEq, Nat.reduceAdd, Nat.reduceSub, Nat.reduceLeDiff, Nat.reduceLT, Nat.reduceEqDiff, Nat.reduceBEq, Nat.reduceMul, Int.reduceToNat, Int.reduceEq, Int.reduceLT, Int.reduceLE] <;> try simp only [zB]
   refine ⟨fun _ => ⟨by omega, ⟨by omega, by omega⟩, ⟨by omega, byte_ob _⟩, i + 1, hlt, by dsimp only; omega, ?_, ?_⟩, fun h => absurd hlt h⟩
   · dsimp only; rw [← numN_set hlt, Nat.zero_add]; rfl
   · with_reducible refine sx1 hwr ?_; trivial
 · refine run_sound mixed 600 _ ?_
   with_reducible refine sx1 hln ?_
   refine ⟨fun h => absurd h hlt, fun _ => ⟨⟨by omega, by omega⟩, ?_⟩⟩
   obtain rfl : i = size := by omega
   rw [numN_all, List.take_of_length_le (by simp [numS])]
theorem element_k (tag : UInt8) (n : Int) (hn : n = tag.toNat) (parts : List (List UInt8)) (hp : parts.length ≤ 1125899906842624) : PC Tryz.prog 195 [.raw (.int .u8 n), .isl (.slice .u8) parts] (.isl .u8 (elemS tag parts)) := by
 subst hn; exact element_c tag parts hp

def restN (v : Int) : Nat → Int
 | 0 => v
 | k + 1 => (restN v k).fdiv 256
def firstN (n : Nat) (q : Nat → Bool) : Option Nat := (List.range n).find? q
theorem firstN_some {n i : Nat} {q : Nat → Bool} (hi : i < n) (hq : q i = true) (hn : ∀ j, j < i → q j = false) : firstN n q = some i := by
 unfold firstN
 rw [List.find?_range_eq_some]
 exact ⟨hq, by simpa using hi, fun j hj => by rw [hn j hj]; rfl⟩
theorem firstN_none {n : Nat} {q : Nat → Bool} (hn : ∀ j, j < n → q j = false) : firstN n q = none := by
 unfold firstN
 rw [List.find?_range_eq_none]
 exact fun j hj => by rw [hn j hj]; rfl
theorem firstN_spec {n i : Nat} {q : Nat → Bool} (h : firstN n q = some i) : i < n ∧ q i = true ∧ ∀ j, j < i → q j = false := by
 unfold firstN at h
 rw [List.find?_range_eq_some] at h
 exact ⟨by simpa using h.2.1, h.1, fun j hj => by simpa using h.2.2 j hj⟩
def oneB (v : Int) (k : Nat) : Bool := decide (-128 ≤ restN v k) && decide (restN v k ≤ 127)
def intSz (v : Int) : Nat := 1 + (firstN 9 (oneB v)).getD 0
def intS (v : Int) : List UInt8 := if -4611686018427387904 ≤ v ∧ v ≤ 4611686018427387904 then elemS 2 [numS v (intSz v)] else []
theorem fdiv256 (r : Int) : r.fdiv 256 = r / 256 := Int.fdiv_eq_ediv_of_nonneg r (by decide)
theorem rest8 {v : Int} (h1 : -4611686018427387904 ≤ v) (h2 : v ≤ 4611686018427387904) : oneB v 8 = true := by
 simp only [oneB, restN, fdiv256, Bool.and_eq_true, decide_eq_true_eq]
 omega
theorem integer_c (v : Int) : PC Tryz.prog 196 [rI v] (.isl .u8 (intS v)) := by
 refine pc_seal rfl rfl ?_
 refine runE mixed fi196 ?_ <;> try with_reducible exact True.intro
 repeat' (first
  | (with_reducible refine And.intro ?_ ?_)
  | (with_reducible intro _))
 all_goals (skip)
 · unfold intS; rw [if_neg (by omega)]
 rotate_left
 · unfold intS; rw [if_neg (by omega)]
 rename_i h1 h2
 have h8 := rest8 (v := v) (by omega) (by omega)
 refine si_loopX (ι := Nat) (fun k => [(3, rI ((1 + k : Nat) : Int)), (4, rI (restN v k))]) (fun _ => []) (fun k => 9 - k) (fun k => k ≤ 8 ∧ ∀ j, j < k → oneB v j = false) 0 ⟨by omega, fun j hj => absurd hj (by omega)⟩ rfl ?_ ?_
 · simp (maxSteps := 3000000) only [restN, go_sem, ↓zA, ↓reduceIte, ↓reduceDIte, reduceCtorEq, Nat.reduceAdd, Nat.reduceSub, Nat.reduceLeDiff, Nat.reduceLT, Nat.reduceEqDiff, Nat.reduceBEq, Nat.reduceMul, Int.reduceToNat, Int.reduceEq, Int.reduceLT, Int.reduceLE] <;> try simp only [zB]
   rfl
 rintro k ⟨hk, hall⟩
 have hwr : IntKind.i64.wrap (((1 + k : Nat) : Int) + 1) = ((1 + (k + 1) : Nat) : Int) := by rw [wrapi (by omega)]; omega
 refine run_sound mixed 600 _ ?_
 with_reducible refine sx1 hwr ?_
 have hp : (2 : Int) ^ min 8 64 = 256 := by decide
 refine ⟨fun h3 => ⟨fun h4 => ?_, fun h4 => ?_⟩, fun h3 => ?_⟩
 · have ho : oneB v k = false := by simp [oneB]; omega
   have hk8 : k ≠ 8 := fun e => by subst e; rw [h8] at ho; cases ho
   refine ⟨k + 1, ⟨by omega, next_all hall ho⟩, by dsimp only; omega, rfl, ?_⟩
   simp (maxSteps := 3000000) only [restN, hp, go_sem, ↓zA, ↓reduceIte, ↓reduceDIte, reduceCtorEq, Nat.reduceAdd, Nat.reduceSub, Nat.reduceLeDiff, Nat.reduceLT, Nat.reduceEqDiff, Nat.reduceBEq, Nat.reduceMul, Int.reduceToNat, Int.reduceEq, Int.reduceLT, Int.reduceLE] <;> try simp only [zB]
 · have ho : oneB v k = true := by simp [oneB]; omega
   have hz : intSz v = 1 + k := by unfold intSz; rw [firstN_some (by omega) ho hall]; rfl
   refine callI_pure (number_c v (1 + k) (by omega)) ?_
   refine goE mixed ?_
   refine callI_hand 0 ?_
   with_reducible refine sxE ?_
   refine callI_pure (element_k 2 2 rfl _ (by simp)) ?_
   refine goE mixed ?_
   unfold intS
   rw [if_pos (by omega), hz]
 · have ho : oneB v k = false := by simp [oneB]; omega
   have hk8 : k ≠ 8 := fun e => by subst e; rw [h8] at ho; cases ho
   refine ⟨k + 1, ⟨by omega, next_all hall ho⟩, by dsimp only; omega, rfl, ?_⟩
   simp (maxSteps := 3000000) only [restN, hp, go_sem, ↓zA, ↓reduceIte, ↓reduceDIte, reduceCtorEq, Nat.reduceAdd, Nat.reduceSub, Nat.reduceLeDiff, Nat.reduceLT, Nat.reduceEqDiff, Nat.reduceBEq, Nat.reduceMul, Int.reduceToNat, Int.reduceEq, Int.reduceLT, Int.reduceLE] <;> try simp only [zB]
theorem octets_c (b : List UInt8) : PC Tryz.prog 164 [.isl .u8 b] (.isl .u8 (elemS 4 [b])) := by
 refine pc_seal rfl rfl ?_
 refine runE mixed fi164 ?_
 refine callI_hand 0 ?_
 with_reducible refine sxE ?_
 refine callI_pure (element_k 4 4 rfl _ (by simp)) ?_
 refine goE mixed ?_; trivial
def timeS (t : Int) : List UInt8 := if 0 ≤ t ∧ t ≤ 1099511627776 then elemS 24 [numS t 6] else []
theorem time_c (t : Int) : PC Tryz.prog 213 [rI t] (.isl .u8 (timeS t)) := by
 refine pc_seal rfl rfl ?_
 refine runE mixed fi213 ?_
 refine ⟨fun h1 => ⟨fun h2 => ?_, fun h2 => ?_⟩, fun h1 => ?_⟩
 · unfold timeS; rw [if_neg (by omega)]
 · refine callI_pure (number_c t 6 (by omega)) ?_
   refine goE mixed ?_
   refine callI_hand 0 ?_
   with_reducible refine sxE ?_
   refine callI_pure (element_k 24 24 rfl _ (by simp)) ?_
   refine goE mixed ?_
   unfold timeS; rw [if_pos (by omega)]
 · unfold timeS; rw [if_neg (by omega)]
theorem sequence_c (l : List (List UInt8)) (hl : l.length ≤ 1125899906842624) : PC Tryz.prog 133 [.isl (.slice .u8) l] (.isl .u8 (elemS 48 l)) := by
 refine pc_seal rfl rfl ?_
 refine runE mixed fi133 ?_
 refine callI_pure (element_k 48 48 rfl _ hl) ?_
 refine goE mixed ?_; trivial
def wrapS (tag n : Int) (b : List UInt8) : List UInt8 := if 0 ≤ n ∧ n ≤ 30 ∧ b ≠ [] then elemS (byteOf (tag + n)) [b] else []
theorem wrapped_c (tag n : Int) (b : List UInt8) (ht : 0 ≤ tag ∧ tag ≤ 1000) : PC Tryz.prog 249 [rI tag, rI n, .isl .u8 b] (.isl .u8 (wrapS tag n b)) := by
 refine pc_seal rfl rfl ?_
 refine runE mixed fi249 ?_
 refine ⟨fun h1 => ⟨fun h2 => ⟨fun h3 => ?_, fun h3 => ?_⟩, fun h2 => ?_⟩, fun h1 => ?_⟩
 · unfold wrapS; rw [if_neg (fun h => h.2.2 (List.length_eq_zero_iff.1 (by omega)))]
 · refine callI_hand 0 ?_
   with_reducible refine sxE ?_
   refine callI_pure (element_k (byteOf (tag + n)) _ ?_ _ (by simp)) ?_
   · rw [wrapi (by omega)]; exact (byte_ob _).symm
   refine goE mixed ?_
   unfold wrapS
   rw [if_pos ⟨by omega, by omega, fun e => h3 (by rw [e]; rfl)⟩]
 · unfold wrapS; rw [if_neg (by omega)]
 · unfold wrapS; rw [if_neg (by omega)]
theorem tagged_c (n : Int) (b : List UInt8) : PC Tryz.prog 208 [rI n, .isl .u8 b] (.isl .u8 (wrapS 160 n b)) := by
 refine pc_seal rfl rfl ?_
 refine runE mixed fi208 ?_
 refine callI_pure (wrapped_c 160 n b (by omega)) ?_
 refine goE mixed ?_; trivial
def bitsS (f : Int) : List UInt8 := elemS 3 [[0], numS f 4]
theorem bits_c (f : Int) (hf : 0 ≤ f ∧ f ≤ 4294967295) : PC Tryz.prog 157 [.raw (.int .u32 f)] (.isl .u8 (bitsS f)) := by
 refine pc_seal rfl rfl ?_
 refine runE mixed fi157 ?_
 rw [wrapi (by omega)]
 refine ⟨by simp, callI_pure (number_c f 4 (by omega)) ?_⟩
 with_reducible refine sxE ?_
 refine si_freeze 0 rfl rfl (by simp) ?_ ?_ ?_
 · with_reducible refine sxE ?_; trivial
 · with_reducible refine sxE ?_; trivial
 with_reducible refine sxE ?_
 refine goE mixed ?_
 refine callI_hand 1 ?_
 with_reducible refine sxE ?_
 refine callI_pure (element_k 3 3 rfl _ (by simp)) ?_
 refine goE mixed ?_
 rfl
theorem dstring_c (s : ByteArray) (hs : s.size ≤ 140737488355328) : PC Tryz.prog 197 [rS s] (.isl .u8 (elemS 27 [s.data.toList])) := by
 refine pc_seal rfl rfl ?_
 refine vc_fi fi197 (run_sound mixed 8 _ ?_)
 simp (maxSteps := 3000000) only [ir197, go_sem, ↓zA, ↓reduceIte, ↓reduceDIte, reduceCtorEq, Nat.reduceAdd, Nat.reduceSub, Nat.reduceLeDiff, Nat.reduceLT, Nat.reduceEqDiff, Nat.reduceBEq, Nat.reduceMul, Int.reduceToNat, Int.reduceEq, Int.reduceLT, Int.reduceLE] <;> try simp only [zB]
 have hl : (bytesOf s).length = s.size := by simp [bytesOf]
 refine si_freeze 0 rfl rfl (by omega) ?_ ?_ ?_
 · with_reducible refine sxE ?_; trivial
 · with_reducible refine sxE ?_
   omega
 with_reducible refine sxE ?_
 refine goE mixed ?_
 refine callI_hand 1 ?_
 with_reducible refine sxE ?_
 rw [List.take_of_length_le (by omega)]
 refine callI_pure (element_k 27 27 rfl _ (by simp)) ?_
 refine goE mixed ?_
 rfl
def fullAt (l : List (List UInt8)) (j : Nat) : Bool := decide (l.getD j (Ty.slice .u8).dflt ≠ [])
def wholeS (l : List (List UInt8)) : List UInt8 := if allN l.length (fullAt l) then elemS 48 l else []
theorem whole_c (l : List (List UInt8)) (hl : l.length ≤ 1125899906842624) : PC Tryz.prog 296 [.isl (.slice .u8) l] (.isl .u8 (wholeS l)) := by
 refine pc_seal rfl rfl ?_
 refine runE mixed fi296 ?_
 refine si_cntD (fun i => [(7, .raw (.int .i64 ((i : Nat) : Int)))]) (l.length) (fun j => (fullAt l) j = true) (by first | decide | simp) (fun i => rfl) ?_ fun i hi hall => ?_
 · (with_reducible refine sxE ?_ <;> try exact True.intro)
   all_goals (try rfl)
 have hwr : IntKind.i64.wrap ((i : Int) + 1) = ((i + 1 : Nat) : Int) := wrap_succ (by omega)
 refine goE mixed ?_
 have bad : i < (l.length) → (fullAt l) i = false → allN (l.length) (fullAt l) = false := fun hlt hv => allN_false hlt hv
 have fin : ¬ i < (l.length) → allN (l.length) (fullAt l) = true := fun h => allN_true fun j hj => hall j (by omega)
 try dsimp only at bad fin hall
 refine ⟨fun hlt => ⟨⟨by omega, hlt⟩, fun h0 => ?_, fun h0 => ?_⟩, fun hge => callI_pure (sequence_c l hl) ?_⟩
 · have : fullAt l i = false := by simp only [fullAt, decide_eq_false_iff_not, ne_eq, Classical.not_not]; exact List.length_eq_zero_iff.1 (by omega)
   unfold wholeS; rw [bad hlt this]; rfl
 · refine ⟨hlt, next_all hall ?_, ⟨_, rfl⟩, ?_⟩
   · simp only [fullAt, decide_eq_true_eq]; exact fun e => h0 (by rw [e]; rfl)
   · with_reducible refine sx1 hwr ?_; trivial
 · refine goE mixed ?_
   unfold wholeS; rw [fin hge]; rfl
def tagN (l : List (List UInt8)) (i : Nat) : List (List UInt8) := (List.range i).map fun (j : Nat) => wrapS 160 j (l.getD j (Ty.slice .u8).dflt)
theorem tagN_succ (l : List (List UInt8)) (i : Nat) : tagN l (i + 1) = tagN l i ++ [wrapS 160 i (l.getD i (Ty.slice .u8).dflt)] := by simp [tagN, List.range_succ]
def fieldsS (l : List (List UInt8)) : List UInt8 := wholeS (tagN l l.length)
theorem fields_c (l : List (List UInt8)) (hl : l.length ≤ 1048576) : PC Tryz.prog 277 [.isl (.slice .u8) l] (.isl .u8 (fieldsS l)) := by
 refine pc_seal rfl rfl ?_
 refine runE mixed fi277 ?_
 refine si_accN 3 (.slice .u8) (fun i => tagN l i) (fun i => [(8, rI i)]) l.length (fun _ => True) rfl (by simp) (by simp [tagN]) rfl (fun i => rfl) ?_ fun i hi _ => ?_
 · with_reducible refine sxE ?_; trivial
 have hwr : IntKind.i64.wrap ((i : Int) + 1) = ((i + 1 : Nat) : Int) := wrap_succ (by omega)
 have hln : (tagN l i).length = i := by simp [tagN]
 have hst := tagN_succ l i
 refine goE mixed ?_
 refine ⟨fun hlt => ⟨⟨by omega, hlt⟩, callI_pure (tagged_c _ _) ?_⟩, fun hge => ?_⟩
 · refine goE mixed ?_
   refine ⟨⟨by omega, by omega⟩, acc_next [_, _] [] hlt trivial (by rw [hst]; rfl) ?_⟩
   with_reducible refine sx3 hwr hst ?_; trivial
 · obtain rfl : i = l.length := by omega
   refine callI_hand 0 ?_
   with_reducible refine sxE ?_
   refine ⟨by omega, ?_⟩
   rw [List.take_of_length_le (by omega)]
   refine ⟨Nat.le_refl _, callI_pure (whole_c (tagN l l.length) (by omega)) ?_⟩
   refine goE mixed ?_
   rfl
def keyS (k : Key) : List UInt8 := fieldsS [intS k.1, intS k.2.1, elemS 4 [k.2.2]]
theorem triple_c (p v : Int) (b : List UInt8) : PC Tryz.prog 250 [rI p, rI v, .isl .u8 b] (.isl .u8 (keyS (p, v, b))) := by
 refine pc_seal rfl rfl ?_
 refine runE mixed fi250 ?_
 refine callI_pure (integer_c p) ?_
 refine goE mixed ?_
 refine callI_pure (integer_c v) ?_
 refine goE mixed ?_
 refine callI_pure (octets_c b) ?_
 refine goE mixed ?_
 refine callI_hand 0 ?_
 with_reducible refine sxE ?_
 refine callI_pure (fields_c _ (by simp)) ?_
 refine goE mixed ?_
 rfl
theorem dkey_c (k : Key) : PC Tryz.prog 212 [.agg (KeyT.cells k)] (.isl .u8 (keyS k)) := by
 refine pc_seal rfl rfl ?_
 refine runE mixed fi212 ?_
 refine callI_pure (triple_c _ _ _) ?_
 refine goE mixed ?_; trivial
end Go.Proofs.YtddmkgibghohkaaGreatDoor
