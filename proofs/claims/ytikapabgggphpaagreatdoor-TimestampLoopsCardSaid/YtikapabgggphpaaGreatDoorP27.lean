/- Timestamps: the iterator over the timestamps of a list. -/
import Derived.Test.YtikapabgggphpaaGreatDoorP26
import Derived.Test.YtikapabgggphpaaGreatDoorP19
set_option linter.all false
namespace Go.Proofs.YtikapabgggphpaaGreatDoor
open Go Go.Sx Go.Proofs
set_option maxRecDepth 100000
set_option maxHeartbeats 4000000
def isT (l : List Pre) (j : Nat) : Bool := decide ((l.getD j PreT.dflt).1 = 2)
def tix (l : List Pre) (n : Nat) : List Nat := (List.range n).filter (isT l)
theorem q3X (l : List Pre) (n : Nat) : tix l (n + 1) = if isT l n then tix l n ++ [n] else tix l n := by
 unfold tix
 rw [List.range_succ, List.filter_append]
 by_cases h : isT l n = true
 · rw [if_pos h]; simp [h]
 rw [if_neg h]; simp [h]
theorem z8O (l : List Pre) {i n : Nat} (h : i ≤ n) : ∃ r, tix l n = tix l i ++ r := by
 induction n with
 | zero => exact ⟨[], by rw [Nat.le_zero.1 h, List.append_nil]⟩
 | succ n ih =>
  by_cases e : i = n + 1
  · subst e; exact ⟨[], by simp⟩
  obtain ⟨r, hr⟩ := ih (by omega)
  rw [q3X, hr]
  split
  · exact ⟨r ++ [n], by simp⟩
  exact ⟨r, rfl⟩
theorem z6Y {l : List Pre} {i n : Nat} (h : i < n) (ht : isT l i = true) : (tix l n)[(tix l i).length]? = some i := by
 obtain ⟨r, hr⟩ := z8O l (show i + 1 ≤ n from h)
 rw [q3X, if_pos ht] at hr
 rw [hr, List.append_assoc, List.getElem?_append_right (Nat.le_refl _)]
 simp
theorem j0g {l : List Pre} {i n : Nat} (h : i < n) (ht : isT l i = true) : (tix l i).length < (tix l n).length := (List.getElem?_eq_some_iff.1 (z6Y h ht)).1
theorem j0j (l : List Pre) (j : Nat) : isT (keptT l) j = isT l j := by
 unfold isT keptT
 rw [List.getD_eq_getElem?_getD, List.getElem?_map, List.getD_eq_getElem?_getD]
 cases l[j]? with
 | none => rfl
 | some x =>
  simp only [Option.map_some, Option.getD_some, tkp]
  split <;> rfl
def vwT (l : List Pre) : Nat → Nat → List SV → List SObj → Prop := fun i n args' new =>
 args' = [rI ((tix l l.length).getD i 0), .agg [rI 2, .bld n .u8 (l.getD ((tix l l.length).getD i 0) PreT.dflt).2.length]] ∧ new = [.row .u8 (l.getD ((tix l l.length).getD i 0) PreT.dflt).2]
theorem z5Q (l : List Pre) (hok : (Ty.slice PreT).ok l) (hl : l.length ≤ 1000) (hb : ∀ x ∈ l, x.2.length ≤ 1000) : Iter Tryz.prog 47 [] [.iptr (.slice PreT) l 0] (tix l l.length).length (vwT l) := by
 have hlen := hok.1
 refine ⟨by kernel_rfl, fun L B J hJ yg => ?_⟩
 refine (q3p (yFG hJ) fi47 ?_).2
 letI : Ghost := topG (yFG hJ) []
 refine uQ 600 _ ?_
 with_reducible refine sxE ?_
 refine z0m [] (fun i => (tix l i).length) (fun i => [(7, rI i)]) l.length (fun _ => True) trivial rfl (by simp) (by simp [SV.bel]) ?_ fun i hi _ => ?_
 · with_reducible refine sxE ?_; trivial
 have hwr := wsx i (by omega)
 by_cases hlt : i < l.length
 · have f1 : ((i : Int) < (l.length : Int)) = True := eq_true (by omega)
   have hm : (l.getD i PreT.dflt) ∈ l := z1c (d := PreT.dflt) hlt
   have hbx := hb _ hm
   by_cases hk : (l.getD i PreT.dflt).1 = 2
   · have hT : isT l i = true := by unfold isT; simpa using hk
     have hq := z6Y hlt hT
     have hq2 := j0g hlt hT
     have hgq : (tix l l.length).getD (tix l i).length 0 = i := by rw [List.getD_eq_getElem?_getD, hq]; rfl
     have hs : (tix l (i + 1)).length = (tix l i).length + 1 := by rw [q3X, if_pos hT]; simp
     refine uQ 28 _ ?_
     simp (maxSteps := 3000000) only [f1, hk, go_sem, ↓zA, ↓reduceIte, ↓reduceDIte] <;> try simp only [zB]
     refine ⟨⟨by omega, hlt⟩, ?_⟩
     refine q1W [1] mixed ?_
     refine uQ 600 _ ?_
     with_reducible refine sxE ?_
     refine z1G (z0R _ (by omega)) rfl rfl ?_ (fun h0 => ?_) ?_
     · with_reducible refine sxaE ?_; trivial
     · refine uQ 600 _ ?_
       with_reducible refine sxaE ?_
       refine z0r _ hJ yg hq2 (fun n => ⟨_, _, ⟨by rw [hgq], by rw [hgq]⟩, q5R (z0b h0 rfl)⟩) fun b => ⟨fun _ => ?_, ?_⟩
       · with_reducible refine sxaE ?_; trivial
       cases b
       · refine uQ 600 _ ?_
         with_reducible refine sxaE ?_
         exact ⟨_, _, rfl, rfl, by omega⟩
       refine uQ 600 _ ?_
       with_reducible refine sxaE ?_
       refine ⟨hlt, trivial, ⟨[.cells 27 [rI 2, .isl .u8 (l.getD i PreT.dflt).2]], by dsimp only; rw [hs]; rfl⟩, ?_⟩
       with_reducible refine sx1 hwr ?_; trivial
     refine uQ 600 _ ?_
     with_reducible refine sxaE ?_
     refine z0r _ hJ yg hq2 (fun n => ⟨_, _, ⟨by rw [hgq], by rw [hgq]⟩, q5R (z4H (hd := 1) rfl rfl)⟩) fun b => ⟨fun _ => ?_, ?_⟩
     · with_reducible refine sxaE ?_; trivial
     cases b
     · refine uQ 600 _ ?_
       with_reducible refine sxaE ?_
       exact ⟨_, _, rfl, rfl, by omega⟩
     refine uQ 600 _ ?_
     with_reducible refine sxaE ?_
     refine ⟨hlt, trivial, ⟨[.cells 27 [rI 2, .isl .u8 (l.getD i PreT.dflt).2], .dead], by dsimp only; rw [hs]; rfl⟩, ?_⟩
     with_reducible refine sx1 hwr ?_; trivial
   have hT : isT l i = false := by unfold isT; simpa using hk
   have hs : (tix l (i + 1)).length = (tix l i).length := by rw [q3X, hT]; rfl
   refine uQ 600 _ ?_
   simp (maxSteps := 3000000) only [f1, hk, go_sem, ↓zA, ↓reduceIte, ↓reduceDIte] <;> try simp only [zB]
   refine ⟨⟨by omega, hlt⟩, hlt, trivial, ⟨[.cells 27 [.raw (.int .i64 (l.getD i PreT.dflt).1), .isl .u8 (l.getD i PreT.dflt).2]], ?_⟩, ?_⟩
   · dsimp only; rw [hs]; rfl
   with_reducible refine sx1 hwr ?_; trivial
 obtain rfl : i = l.length := by omega
 have f1 : ((l.length : Int) < (l.length : Int)) = False := eq_false (by omega)
 refine uQ 600 _ ?_
 simp (maxSteps := 3000000) only [f1, go_sem, ↓zA, ↓reduceIte, ↓reduceDIte] <;> try simp only [zB]
 exact ⟨_, _, rfl, rfl, Nat.le_refl _⟩
end Go.Proofs.YtikapabgggphpaaGreatDoor
namespace Go.Sx
open Go

variable {P : Program} {AQ : Ex → List SV → List SObj → Prop} {k0 : Nat}

theorem z7T {op : Op} {t : Ty} {by_ : Nat} {x y : Operand} (h : compOp P op = some (.app t by_ x y)) : ∃ (c : Call) (tS tX e : TypeId) (i : TypeInfo) (z : Value) (bb : Bool), op = .call c ∧ c.callee = .builtin .append ∧ c.args = #[x, y] ∧ c.argTypes = #[tS, tX] ∧
 P.underlying tS = some (.slice e) ∧ srcType P tX = some bb ∧ P.info? e = some i ∧ by_ = i.bytes ∧ i.size = t.size ∧ i.zero = some z ∧ z.cells.size = t.size := by
 unfold compOp at h
 repeat' split at h
 all_goals first
  | contradiction
  | (simp only [Option.some.injEq, IOp.app.injEq] at h; obtain ⟨rfl, rfl, rfl, rfl⟩ := h; rename_i hsz; exact ⟨_, _, _, _, _, _, _, rfl, by assumption, Array.toList_inj.1 (by assumption), Array.toList_inj.1 (by assumption), by assumption, by assumption, by assumption, rfl, hsz.1, by assumption, hsz.2⟩)
  | (simp only [Option.bind_eq_some_iff, Option.map_eq_some_iff, Option.some.injEq, reduceCtorEq, and_false, exists_false] at h; done)
  | (simp [Option.bind_eq_some_iff] at h; done)

theorem q9z {q : Nat → Prop} {w0 : World} {t t' : Ty} {by_ d h : Nat} {l : List OpI} {td : List IT} {x y : Operand} {tm : List SV} {H : List SObj} {xs : List t.den} {v : Value} (f : t.den → t'.den) (hsz : t'.size = t.size)
 (hf : ∀ (z : t.den) us, t.rel q w0 z us → ∀ I w, t'.rel I w (f z) us) (hx : evT tm x = .bld h t 0) (hH : H[h]? = some (.row t [])) (hy : evT tm y = .raw v) (hv : Sl q w0 t xs v) (hb : xs.length * by_ ≤ 140737488355328)
 (hk : @SoundI (frzG q w0) P AQ ⟨k0, .ops l :: td, putT tm (some d) (.bld H.length t' xs.length), H.set h .dead ++ [.row t' (xs.map f)]⟩) : @SoundI (frzG q w0) P AQ ⟨k0, .ops (⟨some d, .app t by_ x y, none⟩ :: l) :: td, tm, H⟩ := @q0d (frzG q w0) P AQ k0 tm H _ (fun td' hr => by
 obtain ⟨all, idx, r, rfl, ho, hr⟩ := hr
 cases idx with
 | nil => exact ho.elim
 | cons i idx =>
  obtain ⟨⟨o, ho1, ho2⟩, ho⟩ := ho
  obtain ⟨hc, hd⟩ := q0x ho2
  simp only at hc hd
  obtain ⟨c, tS, tX, e, ti, z, bb, hop, hcal, ha, hty, ht, hsx, hi, rfl, h1, h2, h3⟩ := z7T hc
  refine @q7O (frzG q w0) P AQ k0 r tm H all i idx o ho1 ((q0n ho2).1 rfl) ?_
  intro E C rr n a next Q hw hg hvs hret hpan
  have hz : ZInv q w0 C H := hg.2
  have hvx := hvs x (by rw [hop]; simp [Op.operands, Call.operands, hcal, ha])
  have hvy := hvs y (by rw [hop]; simp [Op.operands, Call.operands, hcal, ha])
  rw [hx] at hvx
  rw [hy, SV.den] at hvy
  have hlt : h < H.length := (List.getElem?_eq_some_iff.1 hH).1
  -- the empty row, as one of the other type
  have hget : ∀ {j : Nat} {o' : SObj}, (H.set h (.row t' []))[j]? = some o' → (j = h ∧ o' = .row t' []) ∨ (j ≠ h ∧ H[j]? = some o') := fun {j o'} hj => by
   by_cases e : h = j
   · subst e; rw [List.getElem?_set_self hlt] at hj; cases hj; exact .inl ⟨rfl, rfl⟩
   rw [List.getElem?_set_ne e] at hj; exact .inr ⟨fun e' => e e'.symm, hj⟩
  have hown : ∀ b, OwnB C (H.set h (.row t' [])) b → OwnB C H b := by
   rintro b ⟨j, o', ho', hl, hbb⟩
   rcases hget ho' with ⟨rfl, rfl⟩ | ⟨_, hj⟩
   · exact ⟨j, _, hH, rfl, hbb⟩
   exact ⟨j, o', hj, hl, hbb⟩
  have hw1 : Wd C (H.set h (.row t' [])) := by
   refine ⟨by rw [List.length_set]; exact hw.n, fun j o' ho' => ?_, fun b hbb => hw.own b (hown b hbb), fun j j' o1 o2 b ho1' ho2' hl1 hl2 hb1 hb2 => ?_, hw.imm⟩
   · rcases hget ho' with ⟨rfl, rfl⟩ | ⟨_, hj⟩
     · rcases hw.obj j _ hH with ⟨g1, _⟩ | ⟨b, arr, T, fz, g1, g2, g3, g4, _⟩
       · exact .inl ⟨g1, rfl⟩
       exact .inr ⟨b, arr, T, fz, g1, g2, g3, by simp, fun i x hx => by simp at hx⟩
     exact hw.obj j o' hj
   have k1 : ∃ p, H[j]? = some p ∧ p.live = true := by
    rcases hget ho1' with ⟨rfl, rfl⟩ | ⟨_, hj⟩
    · exact ⟨_, hH, rfl⟩
    exact ⟨o1, hj, hl1⟩
   have k2 : ∃ p, H[j']? = some p ∧ p.live = true := by
    rcases hget ho2' with ⟨rfl, rfl⟩ | ⟨_, hj⟩
    · exact ⟨_, hH, rfl⟩
    exact ⟨o2, hj, hl2⟩
   obtain ⟨p1, k1, k1'⟩ := k1
   obtain ⟨p2, k2, k2'⟩ := k2
   exact hw.inj j j' p1 p2 b k1 k2 k1' k2' hb1 hb2
  have hx1 : Ext ⟨C, H⟩ C (H.set h (.row t' [])) := ⟨Evo.refl _, Nat.le_refl _, rfl, rfl, rfl, fun _ _ _ => rfl, fun _ h => .inl h, fun b hbb => .inr (hown b hbb), fun m h0 hm => by
   by_cases e : h = 0
   · subst e; rw [hH] at hm; cases hm
   rw [List.getElem?_set_ne e]; exact hm⟩
  have hvx' : (SV.bld h t' 0).den C (a.eval x) := by
   rw [SV.den] at hvx ⊢
   refine ⟨hvx.1, orMap hvx.2 id ?_⟩
   rintro ⟨b, cp, m, g1, g2, g3, g4, g5⟩
   exact ⟨b, cp, m, g1, g2, g3, g4, by rw [hsz]; exact g5⟩
  obtain ⟨A, cp, rfl, hA⟩ := hv.out
  have hrow : ∀ (I : Nat → Prop) (w : World), (∀ b, q b → w.heap[b]? = w0.heap[b]?) → (xs.map f = [] ∨ ∃ b off, A = some ⟨b, off, none⟩ ∧ rowAt I w t' (xs.map f) b off) := fun I w hq => by
   rcases hA with rfl | ⟨b, off, rfl, hA⟩
   · exact .inl rfl
   refine .inr ⟨b, off, rfl, fun j y hj => ?_⟩
   rw [List.getElem?_map] at hj
   cases hxj : xs[j]? with
   | none => rw [hxj] at hj; cases hj
   | some u =>
    rw [hxj] at hj; cases hj
    obtain ⟨hqb, vs, g1, g2⟩ := hA j u hxj
    exact ⟨vs, hf u vs g1 I w, fun k u' hu => by rw [hsz, World.cell?_of_block (a := ⟨b, off + j * t.size + k, none⟩) (hq b hqb)]; exact g2 k u' hu⟩
  have hlen : (xs.map f).length = xs.length := List.length_map ..
  have src : ∀ C0 : Cx, (∀ b, q b → C0.w.heap[b]? = w0.heap[b]?) → Src P t' C0 (.slice A xs.length cp) (xs.map f) := fun C0 hq => by
   obtain ⟨news, g1, g2⟩ := q1h (P := P) (C := C0) (A := A) (c := cp) (hrow C0.I C0.w hq)
   rw [hlen] at g2
   exact ⟨news, g1, by simp [Builtin.lenOf], by rw [hlen]; exact g2⟩
  have hxl : xs.length ≤ 1125899906842624 := (Ty.rel_ok _ _ _ hv).1
  obtain ⟨rv, C', hrun, w1, w2, w3⟩ := q6R (P := P) (ty := o.type) (tS := tS) (tX := tX) (Hk := (H.set h (.row t' [])).set h .dead) (xs := ([] : List t'.den)) (n := 0) hw1 hvx' (by
   unfold dstOf
   simp only [List.getElem?_set_self hlt, and_self, dite_true, cast_eq]) rfl (src C fun b hb => (hz b hb).2.2.2) (src C.drew fun b hb => (hz b hb).2.2.2) ht hsx hi (h1.trans hsz.symm) h2 (h3.trans hsz.symm) (by simpa using hxl) (by simpa using hb)
  rw [List.set_set, List.nil_append] at w1 w2
  simp only [List.length_nil, Nat.zero_add, List.length_map, List.length_set] at w3
  have hk' := @q0c (frzG q w0) P AQ _ _ _ _ _ hk ⟨all, idx, r, rfl, ho, hr⟩
  refine j0r (w' := C'.w) (v := rv) (by rw [hop]; intro c hc; cases hc) (.inl ?_) (hret (.bld H.length t' xs.length) rv _ C' (by rw [← hd]; exact hk') w1 (@Stp.of (frzG q w0) E C C' H _ (hx1.trans w2)) w3)
  rw [← hvy] at hrun
  simp [execOp, hop, resolve, hcal, ha, hty, invoke, builtin, hrun, Result.andThen]) rfl
theorem z3X [Ghost] {t t' : Ty} {td : List IT} {tm : List SV} {H : List SObj} {xs : List t.den} (g : t.den → t'.den) (h slot n : Nat) (hp : plainT td = true) (hsz : t'.size = t.size) (hH : H[h]? = some (.row t xs)) (hs : tm[slot]? = some (.bld h t n))
 (hg : ∀ z ∈ xs, ∀ I w us, t.rel I w z us → t'.rel I w (g z) us) (hk : SoundI P AQ ⟨k0, td, tm.set slot (.bld h t' n), H.set h (.row t' (xs.map g))⟩) : SoundI P AQ ⟨k0, td, tm, H⟩ := q0d (fun td' hr E rr m C a h0 hd => by
 have hw := hd.wd
 have hlt : h < H.length := (List.getElem?_eq_some_iff.1 hH).1
 have hget : ∀ {j : Nat} {o' : SObj}, (H.set h (.row t' (xs.map g)))[j]? = some o' → (j = h ∧ o' = .row t' (xs.map g)) ∨ (j ≠ h ∧ H[j]? = some o') := fun {j o'} hj => by
  by_cases e : h = j
  · subst e; rw [List.getElem?_set_self hlt] at hj; cases hj; exact .inl ⟨rfl, rfl⟩
  rw [List.getElem?_set_ne e] at hj; exact .inr ⟨fun e' => e e'.symm, hj⟩
 have hown : ∀ b, OwnB C (H.set h (.row t' (xs.map g))) b → OwnB C H b := by
  rintro b ⟨j, o', ho', hl, hbb⟩
  rcases hget ho' with ⟨rfl, rfl⟩ | ⟨_, hj⟩
  · exact ⟨j, _, hH, rfl, hbb⟩
  exact ⟨j, o', hj, hl, hbb⟩
 have hw1 : Wd C (H.set h (.row t' (xs.map g))) := by
  refine ⟨by rw [List.length_set]; exact hw.n, fun j o' ho' => ?_, fun b hbb => hw.own b (hown b hbb), fun j j' o1 o2 b ho1' ho2' hl1 hl2 hb1 hb2 => ?_, hw.imm⟩
  · rcases hget ho' with ⟨rfl, rfl⟩ | ⟨_, hj⟩
    · rcases hw.obj j _ hH with ⟨g1, g2⟩ | ⟨b, arr, T, fz, g1, g2, g3, g4, g5⟩
      · exact .inl ⟨g1, by rw [g2]; rfl⟩
      refine .inr ⟨b, arr, T, fz, g1, g2, g3, by rw [List.length_map, hsz]; exact g4, fun i x hx => ?_⟩
      rw [List.getElem?_map] at hx
      cases hxi : xs[i]? with
      | none => rw [hxi] at hx; cases hx
      | some u =>
       rw [hxi] at hx; cases hx
       obtain ⟨us, q1, q2⟩ := g5 i u hxi
       exact ⟨us, hg u (List.mem_of_getElem? hxi) _ _ _ q1, fun k u' hu => by rw [hsz]; exact q2 k u' hu⟩
    exact hw.obj j o' hj
  have key : ∀ {j : Nat} {o1 : SObj}, (H.set h (.row t' (xs.map g)))[j]? = some o1 → o1.live = true → ∃ p, H[j]? = some p ∧ p.live = true := fun {j o1} ho1' hl1 => by
   rcases hget ho1' with ⟨rfl, rfl⟩ | ⟨_, hj⟩
   · exact ⟨_, hH, rfl⟩
   exact ⟨o1, hj, hl1⟩
  obtain ⟨p1, k1, k1'⟩ := key ho1' hl1
  obtain ⟨p2, k2, k2'⟩ := key ho2' hl2
  exact hw.inj j j' p1 p2 b k1 k2 k1' k2' hb1 hb2
 have hx1 : Ext ⟨C, H⟩ C (H.set h (.row t' (xs.map g))) := ⟨Evo.refl _, Nat.le_refl _, rfl, rfl, rfl, fun _ _ _ => rfl, fun _ h => .inl h, fun b hbb => .inr (hown b hbb), fun m h0 hm => by
  by_cases e : h = 0
  · subst e; rw [hH] at hm; cases hm
  rw [List.getElem?_set_ne e]; exact hm⟩
 obtain ⟨v, hv, hdv⟩ := q1o hd.tmps hs
 have ht : SV.denL C (tm.set slot (.bld h t' n)) a.tmps.toList := by
  have := q1J (i := slot) (s := .bld h t' n) (v := v) hd.tmps (by
   rw [SV.den] at hdv ⊢
   refine ⟨hdv.1, orMap hdv.2 id ?_⟩
   rintro ⟨b, cp, m, g1, g2, g3, g4, g5⟩
   exact ⟨b, cp, m, g1, g2, g3, g4, by rw [hsz]; exact g5⟩)
  rwa [q5f hv] at this
 exact q0c hk hr E rr m C a h0 ⟨hw1, hd.ext.trans hx1, hd.defs.next hx1, ht⟩) hp
def flatI : IC → List IC
 | .seq a b => flatI a ++ flatI b
 | c => [c]
theorem q4F : ∀ {k1 k2 : List IT} {l1 l2 : List It}, (∀ x ∈ k1, ∃ c, x = .ic c) → RelT P k1 l1 → RelT P k2 l2 → RelT P (k1 ++ k2) (l1 ++ l2)
 | [], _, _, _, _, h, h2 => by cases h; exact h2
 | x :: k1, k2, l1, l2, hc, h, h2 => by
  obtain ⟨c, rfl⟩ := hc x (by simp)
  obtain ⟨c', r, rfl, h3, h4⟩ := h
  exact ⟨c', r ++ l2, rfl, h3, q4F (fun x hx => hc x (by simp [hx])) h4 h2⟩
theorem rel_flat : ∀ (ic : IC) {c : Code}, comp P c = some ic → RelT P ((flatI ic).map .ic) ((flatC c).map .code) := by
 intro ic
 induction ic with
 | seq x y ihx ihy =>
  intro c h
  obtain ⟨a, b, rfl, h1, h2⟩ := q0z h
  simp only [flatI, flatC, List.map_append]
  exact q4F q4Q (ihx h1) (ihy h2)
 | _ =>
  intro c h
  have hc : flatC c = [c] := by
   cases c with
   | seq a b => simp only [comp] at h; split at h <;> cases h
   | _ => rfl
  rw [hc]
  exact ⟨c, [], rfl, h, rfl⟩
theorem z7I [Ghost] {ic : IC} {k : List IT} {t : List SV} {H : List SObj} (h : SoundI P AQ ⟨k0, (flatI ic).map .ic ++ k, t, H⟩) (hp : plainT ((flatI ic).map .ic ++ k) = true) : SoundI P AQ ⟨k0, .ic ic :: k, t, H⟩ := q0d (fun td' hr E rr n C a h0 hd => by
 obtain ⟨c', r, rfl, hc, hr⟩ := hr
 exact q5i c' r a C.w (q0c h (q4F q4Q (rel_flat ic hc) hr) E rr n C a h0 hd)) rfl
def EnD.up (E : EnD) (ds : List Deferred) : EnD := { E with base := ds }
theorem j0o {Ds : List Nat} {E : EnD} {C : Cx} {t : List SV} {H : List SObj} {a : Act} (h : @DenF (topG noFG Ds) E C t H a) (ht : TabT C H) (hold : ∀ b, TBlk b → b < E.C.w.heap.size) : ∃ Ds' : List Nat, a.defers = Ds'.map markD ++ E.base ∧ @Den (topG noFG (Ds' ++ Ds)) (E.up a.defers) C t H a := by
 obtain ⟨Ds', e1, e2, e3, e4⟩ := h.defs
 exact ⟨Ds', e1, h.wd, h.ext, ⟨rfl, ⟨ht, hold⟩, e2, e3, e4⟩, h.tmps⟩
theorem z9r {Ds Ds' : List Nat} {E : EnD} {ds : List Deferred} (hds : ds = Ds'.map markD ++ E.base) (e : Exit) (a : Act) (w : World) (h : @conc (topG noFG (Ds' ++ Ds)) (E.up ds) AQ e a w) : @conc (topG noFG Ds) E AQ e a w := by
 have key : ∀ {C : Cx} {H : List SObj} {d : List Deferred}, (topG noFG (Ds' ++ Ds)).fin (E.up ds) C H d → (topG noFG Ds).fin E C H d := fun {C H d} hf => by
  obtain ⟨Ds2, e1, _, e3, e4⟩ := hf
  exact ⟨Ds2 ++ Ds', by rw [e1, List.map_append, List.append_assoc]; show _ = _ ++ (_ ++ _); rw [← hds]; rfl, ⟨fun _ => False, fun _ h => h⟩, by rw [List.append_assoc]; exact e3, by rw [List.append_assoc]; exact e4⟩
 cases e with
 | normal => obtain ⟨C, t, H, h1, rfl, h3⟩ := h; exact ⟨C, t, H, h1, rfl, h3.wd, h3.ext, key h3.defs, h3.tmps⟩
 | ret => obtain ⟨C, t, H, h1, rfl, h3⟩ := h; exact ⟨C, t, H, h1, rfl, h3.wd, h3.ext, key h3.defs, h3.tmps⟩
 | exit id => obtain ⟨C, t, H, h1, rfl, h3⟩ := h; exact ⟨C, t, H, h1, rfl, h3.wd, h3.ext, key h3.defs, h3.tmps⟩
 | panic ch => obtain ⟨C, t, H, s, v, h1, h2, h3, h4, h5, h6, h7, h8⟩ := h; exact ⟨C, t, H, s, v, h1, h2, h3, h4, h5, h6, key h7, h8⟩
 | goto l => exact h
 | outgrown => exact h
def LoopQ {ι : Type} (P : Program) (AQ : Ex → List SV → List SObj → Prop) (St : ι → List SV → List SObj → Prop) (μ : ι → Nat) (id : Nat) (k : List IT) (i : ι) : Ex → List SV → List SObj → Prop
 | .normal, t, H => ∃ j t', μ j < μ i ∧ leM t t' ∧ St j t' H
 | .exit id', t, H => id' = id ∧ ∀ Ds, @SoundI (topG noFG Ds) P AQ ⟨0, k, t, H⟩
 | .ret, t, H => AQ .ret t H
 | .pan _, _, _ => False
theorem z6h {E : En} {C : Cx} {H : List SObj} (h : TabE E C H) (hx : Ext E C H) (hno : ∀ b, ¬ OwnB E.C E.H b) (hf : (datList.all fun e => e.2.1.flat) = true) : TabT E.C E.H where
 tab := fun e he => by
  obtain ⟨h1, T, fz, h2⟩ := h.tab.tab e he
  have hlt := h.old e.1 (.inl ⟨e, he, rfl⟩)
  exact ⟨⟨hlt, hno _⟩, T, fz, (hx.frame e.1 hlt (hno _)).symm.trans h2⟩
 dat := fun e he => by
  obtain ⟨h1, us, h2, h3⟩ := h.tab.dat e he
  have hlt := h.old e.1 (.inr ⟨e, he, rfl⟩)
  exact ⟨⟨hlt, hno _⟩, us, Ty.rel_flat _ _ _ (List.all_eq_true.1 hf e he) h2, fun j u hu => by rw [← h3 j u hu]; exact (World.cell?_of_block (hx.frame e.1 hlt (hno _))).symm⟩
theorem z4x [Ghost] {F : Fence} {n : Nat} {E : EnD} {Q : Exit → Act → World → Prop} {id : Nat} {c : Code} {k : List It} {a : Act} {w : World} (h1 : wpT F n P E Q (.code c :: .blk id :: k) a w) : wpT F n P E Q (.code (.block id c) :: k) a w := by
 simp only [wpT] at h1 ⊢
 refine wpIn_block (wpIn_mono h1 fun e a w hq => ?_)
 cases e with
 | exit id' =>
  simp only [exitT] at hq
  simp only [Exit.inBlock]
  by_cases hi : id = id'
  · subst hi; simpa using hq
  rw [if_neg hi] at hq
  have hi' : ¬ id' = id := fun e => hi e.symm
  simpa [hi', hi] using hq
 | _ => exact hq
theorem z6M {ι : Type} {Ds : List Nat} {c : IC} {id : Nat} {k : List IT} {t : List SV} {H : List SObj} (St : ι → List SV → List SObj → Prop) (μ : ι → Nat) (i₀ : ι) (t₀ : List SV) (hflat : (datList.all fun e => e.2.1.flat) = true) (hle : leM t t₀) (h₀ : St i₀ t₀ H) (hns : noStopI k = true)
 (round : ∀ i t H, St i t H → ∀ Ds, @SoundI (topG noFG Ds) P (LoopQ P AQ St μ id k i) ⟨0, [.ic c], t, H⟩) : SoundI0 (topG noFG Ds) P AQ (.ic (.blk id (.loop c)) :: k) t H := by
 intro td' hr E rr n C a hEH hfit hd
 obtain ⟨cl, r', rfl, hc, hr⟩ := hr
 obtain ⟨cl', rfl, hc2⟩ := q0z hc
 obtain ⟨x, rfl, hx⟩ := q0z hc2
 refine @z4x P (topG noFG Ds) _ _ _ _ _ _ _ _ _ ?_
 obtain ⟨hn0, hrr⟩ : E.C.n ≤ 0 ∧ rr = none := hfit
 subst hrr
 simp only [wpT]
 refine q0B (fun m a w => ∃ (i : ι) (t : List SV) (H : List SObj) (Ds' : List Nat) (E' : EnD) (C : Cx), μ i = m ∧ St i t H ∧ C.w = w ∧ @Den (topG noFG Ds') E' C t H a ∧ E'.toEn = E.toEn ∧ ∀ ex a w, @conc (topG noFG Ds') E' AQ ex a w → @conc (topG noFG Ds) E AQ ex a w) (μ i₀)
  ⟨i₀, t₀, H, Ds, E, C, rfl, h₀, rfl, ⟨hd.wd, hd.ext, hd.defs, q1x (q1w hle) hd.tmps⟩, rfl, fun _ _ _ h => h⟩ ?_
 rintro m' a w ⟨i, t, H, Ds', E', C, rfl, hst, rfl, hd, hE, hcc⟩
 have hn : E'.C.n ≤ 0 := by rw [show E'.C = E.C from congrArg En.C hE]; exact hn0
 have h1 := @q0c (topG noFG Ds') P (LoopQ P AQ St μ id k i) _ _ _ _ _ (round i t H hst Ds') ⟨x, [], rfl, hx, rfl⟩ E' none n C a ⟨hn, rfl⟩ hd
 simp only [wpT] at h1
 have htab : TabE E'.toEn C H := hd.defs.2.1
 have hE0 : TabT E'.C E'.H := by
  have hno : ∀ b, ¬ OwnB E'.C E'.H b := fun b ⟨h, o, ho, _⟩ => by rw [show E'.H = [] from (congrArg En.H hE).trans hEH] at ho; simp at ho
  exact z6h htab hd.ext hno hflat
 refine wpIn_mono h1 fun e a1 w1 hq => ?_
 have hent : ∀ {C1 : Cx} {t1 : List SV} {H1 : List SObj}, @DenF (topG noFG Ds') E' C1 t1 H1 a1 → TabT C1 H1 → ∃ Ds1 : List Nat, @Den (topG noFG (Ds1 ++ Ds')) (E'.up a1.defers) C1 t1 H1 a1 ∧ ∀ ex a w, @conc (topG noFG (Ds1 ++ Ds')) (E'.up a1.defers) AQ ex a w → @conc (topG noFG Ds) E AQ ex a w := fun {C1 t1 H1} hf ht => by
  obtain ⟨Ds1, e1, e2⟩ := j0o hf ht htab.old
  exact ⟨Ds1, e2, fun ex a w h => hcc ex a w (z9r e1 ex a w h)⟩
 cases e with
 | normal =>
  obtain ⟨C1, t1, H1, ⟨j, t', hlt, hle, hst'⟩, rfl, hf⟩ := hq
  obtain ⟨Ds1, e2, e3⟩ := hent hf (hE0.next hf.ext)
  exact ⟨μ j, hlt, j, t', H1, _, _, C1, rfl, hst', rfl, ⟨e2.wd, e2.ext, e2.defs, q1x (q1w hle) e2.tmps⟩, hE, e3⟩
 | exit id' =>
  simp only [exitT] at hq
  obtain ⟨C1, t1, H1, ⟨rfl, hk⟩, rfl, hf⟩ := hq
  obtain ⟨Ds1, e2, e3⟩ := hent hf (hE0.next hf.ext)
  have h2 := @q0c (topG noFG (Ds1 ++ Ds')) P AQ _ _ _ _ _ (hk (Ds1 ++ Ds')) hr (E'.up a1.defers) none n C1 a1 ⟨hn, rfl⟩ e2
  have h3 := (@q1R P (topG noFG Ds) (topG noFG (Ds1 ++ Ds')) (Fw none) n E (E'.up a1.defers) (@conc (topG noFG Ds) E AQ) (@conc (topG noFG (Ds1 ++ Ds')) (E'.up a1.defers) AQ) e3 r' (q1B hr hns)).1 _ _ h2
  simp only [Exit.then, exitT, if_true]
  exact h3
 | ret => exact hcc .ret a1 w1 (by obtain ⟨C1, t1, H1, h1, h2, h3⟩ := hq; exact ⟨C1, t1, H1, h1, h2, h3⟩)
 | panic ch => obtain ⟨_, _, _, _, _, h, _⟩ := hq; exact h.elim
 | goto l => exact hq.elim
 | outgrown => exact hq.elim
end Go.Sx
namespace Go.Sx
open Go

variable [Ghost] {P : Program} {AQ : Ex → List SV → List SObj → Prop} {k0 : Nat} {k : List IT} {t : List SV} {H : List SObj}

theorem z6x {ι : Type} {c : IC} (ws : List Nat) (upd : ι → List (Nat × SV)) (Hf : ι → List SObj) (μ : ι → Nat) (p : ι → Prop) (i₀ : ι) (h₀ : p i₀) (hs : ∃ σ, Le σ k0 t H (setMany (maskT ws (maskT c.wr t)) (upd i₀)) (Hf i₀))
 (round : ∀ i, p i → SoundI P AQ ⟨k0, .ic c :: .stop (RoundK k0 (fun i => (setMany (maskT ws (maskT c.wr t)) (upd i), Hf i)) μ p i) :: k, setMany (maskT ws (maskT c.wr t)) (upd i), Hf i⟩) : SoundI P AQ ⟨k0, .ic (.loop c) :: k, t, H⟩ :=
 z8p (fun i => (setMany (maskT ws (maskT c.wr t)) (upd i), Hf i)) μ p i₀ h₀ hs round
theorem roundR {ι : Type} {S : ι → List SV × List SObj} {μ : ι → Nat} {p : ι → Prop} {i : ι} {t' : List SV} {H' : List SObj} (σ : Nat → Nat) (j : ι) (hj : p j) (hl : μ j < μ i) (h1 : leT σ t' (S j).1) (h2 : leH σ H' 0 (S j).2) (h3 : SV.belL (S j).2.length (S j).1 = true) (h4 : belH (S j).2.length (S j).2 = true) (h5 : injH σ 0 (S j).2 [] = true) : RoundK 0 S μ p i t' H' :=
 ⟨j, hj, hl, σ, h1, h2, h3, h4, h5, rfl, Nat.zero_le _, fun _ h0 => absurd h0 (Nat.lt_irrefl 0)⟩
theorem le0 {σ : Nat → Nat} {t t' : List SV} {H H' : List SObj} (h1 : leT σ t t') (h2 : leH σ H 0 H') (h3 : SV.belL H'.length t' = true) (h4 : belH H'.length H' = true) (h5 : injH σ 0 H' [] = true) : ∃ σ, Le σ 0 t H t' H' :=
 ⟨σ, h1, h2, h3, h4, h5, rfl, Nat.zero_le _, fun _ h0 => absurd h0 (Nat.lt_irrefl 0)⟩
end Go.Sx
namespace Go.Proofs.YtikapabgggphpaaGreatDoor
open Go Go.Sx Go.Proofs
set_option maxRecDepth 100000
set_option maxHeartbeats 4000000
abbrev PmT : Ty := .prod I64 (.mbs .u8)
def ownM (l : List Pre) (i : Nat) : List PmT.den := (l.take i).map (fun x => (x.1, some x.2)) ++ (l.drop i).map (fun x => (x.1, none))
theorem z6r {l : List Pre} {i : Nat} : (ownM l i).length = l.length := by simp only [ownM, List.length_append, List.length_map, List.length_take, List.length_drop]; omega
theorem z6P {l : List Pre} {i : Nat} (hi : i < l.length) : (ownM l i).set i ((l.getD i PreT.dflt).1, some (l.getD i PreT.dflt).2) = ownM l (i + 1) := by
 have hg : l[i]? = some (l.getD i PreT.dflt) := by rw [List.getD_eq_getElem?_getD, List.getElem?_eq_getElem hi]; rfl
 have hg2 : l[i] = l.getD i PreT.dflt := by rw [List.getElem?_eq_getElem hi] at hg; exact Option.some.inj hg
 unfold ownM
 rw [List.set_append_right _ _ (by simp; omega)]
 have e1 : i - ((l.take i).map fun x : Pre => ((x.1, some x.2) : PmT.den)).length = 0 := by simp; omega
 rw [e1, List.drop_eq_getElem_cons hi, List.map_cons, List.set_cons_zero, List.take_add_one, hg]
 simp
theorem z4Q {l : List Pre} {i : Nat} (hi : i < l.length) : (ownM l i).getD i PmT.dflt = ((l.getD i PreT.dflt).1, none) := by
 unfold ownM
 have hg : l[i]? = some (l.getD i PreT.dflt) := by rw [List.getD_eq_getElem?_getD, List.getElem?_eq_getElem hi]; rfl
 have hg2 : l[i] = l.getD i PreT.dflt := by rw [List.getElem?_eq_getElem hi] at hg; exact Option.some.inj hg
 rw [List.getD_eq_getElem?_getD, List.getElem?_append_right (by simp; omega)]
 have e1 : i - ((l.take i).map fun x : Pre => ((x.1, some x.2) : PmT.den)).length = 0 := by simp; omega
 rw [e1, List.drop_eq_getElem_cons hi, List.map_cons, hg2]
 rfl
def unM (z : PmT.den) : PreT.den := (z.1, z.2.getD [])
theorem z4G (l : List Pre) : (ownM l l.length).map unM = l := by
 simp only [ownM, List.take_length, List.drop_length, List.map_nil, List.append_nil, List.map_map]
 conv => rhs; rw [← List.map_id l]
 rfl
theorem z1Q {l : List Pre} {z : PmT.den} (h : z ∈ ownM l l.length) : ∃ x ∈ l, z = (x.1, some x.2) := by
 simp only [ownM, List.take_length, List.drop_length, List.map_nil, List.append_nil] at h
 obtain ⟨x, hx, rfl⟩ := List.mem_map.1 h
 exact ⟨x, hx, rfl⟩
def wntT (l : List Pre) (i : Nat) : List Int := (tix l i).map fun j : Nat => (j : Int)
def smlT (l : List Pre) : Prop := l.length ≤ 20 ∧ ∀ j, j < l.length → (l.getD j PreT.dflt).2.length ≤ 100
def lpF : List IC := flatI ir8.code
def lpA : List SV := [.any, .any, .ptr 0 0, .ptr 1 0, .ptr 2 0, .ptr 3 0] ++ List.replicate 160 .any
def lpHA (l : List Pre) (many : Int) : List SObj := [.cells 3 [rI many], .cells 4 [.raw (.bool false)], .cells 56 [.bld 5 I64 (wntT l l.length).length], .dead, .row I64 (wntT l l.length)]
theorem z8A (l : List Pre) (many : Int) (q : Nat → Prop) (w0 : World) (v : Value) (hv : Sl q w0 PreT l v) : @SoundI (frzG q w0) Tryz.prog (retF Tryz.prog ir8.results (PK (rB true)))
 ⟨0, (lpF.take 7).map .ic ++ [.stop fun t H => leM t (lpA.set 6 (.isl PreT l)) ∧ H = .cells 55 [.raw v] :: lpHA l many ∧ smlT l], [.raw v, rI many] ++ List.replicate 164 .any, []⟩ := by
 letI : Ghost := frzG q w0
 have hok : (Ty.slice PreT).ok l := Ty.rel_ok _ _ _ hv
 obtain ⟨A, c, rfl, hA⟩ := hv.out
 simp only [lpF, ir8, flatI, go_sem, List.cons_append, List.nil_append, List.take_succ_cons, List.take_zero, List.map_cons, List.map_nil]
 by_cases h20 : l.length ≤ 20
 · have f20 : ((20 : Int) < (l.length : Int)) = False := eq_false (by omega)
   refine uQ 18 _ ?_
   simp (maxSteps := 3000000) only [f20, go_sem, ↓zA, ↓reduceIte, ↓reduceDIte] <;> try simp only [zB]
   refine q9z (t' := PmT) (fun x => (x.1, none)) rfl ?_ rfl rfl rfl hv (by omega) ?_
   · rintro z us ⟨v1, v2, rfl, h1, h2⟩ I w
     obtain ⟨A', n', c', rfl, _⟩ := h2
     exact ⟨v1, _, rfl, h1, z6A⟩
   refine uQ 7 _ ?_
   with_reducible refine sxE ?_
   rw [show (l.map fun x : Pre => ((x.1, none) : PmT.den)) = ownM l 0 by simp [ownM]]
   refine q6H 3 0 I64 rfl rfl rfl ?_
   refine uQ 1 _ ?_
   with_reducible refine sxE ?_
   refine z6x (ι := Nat) [20, 22] (fun i => [(7, rI i), (6, .bld 4 PmT l.length)]) (fun i => [.cells 55 [.raw (.slice A l.length c)], .cells 3 [rI many], .cells 4 [.raw (.bool false)], .cells 56 [.bld 5 I64 (wntT l i).length], .row PmT (ownM l i), .row I64 (wntT l i)])
    (fun i => l.length - i) (fun i => i ≤ l.length ∧ ∀ j, j < i → (l.getD j PreT.dflt).2.length ≤ 100) 0 ⟨Nat.zero_le _, fun _ h => absurd h (Nat.not_lt_zero _)⟩ (le0 (σ := fun h => if h = 4 then 5 else if h = 5 then 6 else h) ?_ ?_ ?_ ?_ ?_) ?_
   · with_reducible refine sxE ?_; trivial
   · exact ⟨rfl, rfl, rfl, rfl, rfl, rfl, trivial⟩
   · kernel_rfl
   · kernel_rfl
   · kernel_rfl
   rintro i ⟨hi, hall⟩
   have hwr := wsx i (by omega)
   have hol := z6r (l := l) (i := i)
   by_cases hlt : i < l.length
   · have f1 : ((i : Int) < (l.length : Int)) = True := eq_true (by omega)
     rcases hA with h0 | ⟨b, o, rfl, hat⟩
     · exfalso; rw [h0] at hlt; exact absurd hlt (by simp)
     have hg : l[i]? = some (l.getD i PreT.dflt) := by rw [List.getD_eq_getElem?_getD, List.getElem?_eq_getElem hlt]; rfl
     have hx := hat i _ hg
     have hset := z6P hlt
     have hget := z4Q hlt
     have hTs := q3X l i
     have hall' : ∀ j, j < i + 1 → (l.getD i PreT.dflt).2.length ≤ 100 → (l.getD j PreT.dflt).2.length ≤ 100 := fun j hj h => by
      by_cases e : j = i
      · subst e; exact h
      exact hall j (by omega)
     have hwn : (wntT l i).length ≤ i := by
      simp only [wntT, List.length_map, tix]
      exact Nat.le_trans (List.length_filter_le _ _) (by simp)
     unfold isT at hTs
     generalize hxx : l.getD i PreT.dflt = x at *
     refine uQ 600 _ ?_
     simp (maxSteps := 3000000) only [f1, go_sem, ↓zA, ↓reduceIte, ↓reduceDIte] <;> try simp only [zB]
     refine ⟨⟨by omega, hlt⟩, zldF1 hx.snd rfl fun u hu => ?_⟩
     obtain ⟨A1, c1, rfl, hA1⟩ := (show Sl q w0 .u8 x.2 u from hu).out
     by_cases h100 : x.2.length ≤ 100
     · have f100 : ((100 : Int) < (x.2.length : Int)) = False := eq_false (by omega)
       refine uQ 600 _ ?_
       simp (maxSteps := 3000000) only [f100, go_sem, ↓zA, ↓reduceIte, ↓reduceDIte] <;> try simp only [zB]
       refine ⟨⟨by omega, hlt⟩, zldF1 hx.fst rfl fun u hu2 => ?_⟩
       obtain rfl : u = .int .i64 x.1 := (List.cons.inj hu2).1
       by_cases hk : x.1 = 2
       · refine uQ 600 _ ?_
         with_reducible refine sx1 hk ?_
         refine ⟨⟨by omega, by omega⟩, ⟨by omega, hlt⟩, zldF1 hx.snd rfl fun u hu3 => ?_⟩
         obtain ⟨A2, c2, rfl, hA2⟩ := (show Sl q w0 .u8 x.2 u from hu3).out
         refine q9z (t' := .u8) id rfl (fun z us h I w => h) rfl rfl rfl (show Sl q w0 .u8 x.2 _ from hu3) (by omega) ?_
         rw [List.map_id]
         refine uQ 2 _ ?_
         with_reducible refine sxE ?_
         refine ⟨⟨by omega, hlt⟩, ?_⟩
         refine q1u 9 rfl rfl (by omega) ?_ ?_ ?_
         · simp (maxSteps := 3000000) only [Nat.le_refl, go_sem, ↓zA, ↓reduceIte, ↓reduceDIte] <;> try simp only [zB]
         · simp (maxSteps := 3000000) only [Nat.le_refl, go_sem, ↓zA, ↓reduceIte, ↓reduceDIte] <;> try simp only [zB]
         simp (maxSteps := 3000000) only [List.take_length, go_sem, ↓zA, ↓reduceIte, ↓reduceDIte] <;> try simp only [zB]
         refine uQ 600 _ ?_
         simp (maxSteps := 3000000) only [hol, hget, Nat.zero_add, go_sem, ↓zA, ↓reduceIte, ↓reduceDIte] <;> try simp only [zB]
         have hw1 : wntT l (i + 1) = wntT l i ++ [(i : Int)] := by unfold wntT; rw [hTs, if_pos (by simpa using hk)]; simp
         have hw2 : (wntT l (i + 1)).length = (wntT l i).length + 1 := by rw [hw1]; simp
         refine ⟨hlt, ?_⟩
         refine roundR (fun h => if h = 5 then 7 else h) (i + 1) ⟨hlt, fun j hj => hall' j hj h100⟩ (by show l.length - (i + 1) < l.length - i; omega) ?_ ?_ ?_ ?_ ?_
         · with_reducible refine sx1 hwr ?_; trivial
         · dsimp only
           rw [hset, hw2, hw1]
           exact ⟨rfl, rfl, rfl, rfl, rfl, rfl, trivial⟩
         · kernel_rfl
         · kernel_rfl
         kernel_rfl
       refine uQ 600 _ ?_
       with_reducible refine sx1 hk ?_
       refine ⟨⟨by omega, hlt⟩, zldF1 hx.snd rfl fun u hu3 => ?_⟩
       obtain ⟨A2, c2, rfl, hA2⟩ := (show Sl q w0 .u8 x.2 u from hu3).out
       refine q9z (t' := .u8) id rfl (fun z us h I w => h) rfl rfl rfl (show Sl q w0 .u8 x.2 _ from hu3) (by omega) ?_
       rw [List.map_id]
       refine uQ 2 _ ?_
       with_reducible refine sxE ?_
       refine ⟨⟨by omega, hlt⟩, ?_⟩
       refine q1u 7 rfl rfl (by omega) ?_ ?_ ?_
       · simp (maxSteps := 3000000) only [Nat.le_refl, go_sem, ↓zA, ↓reduceIte, ↓reduceDIte] <;> try simp only [zB]
       · simp (maxSteps := 3000000) only [Nat.le_refl, go_sem, ↓zA, ↓reduceIte, ↓reduceDIte] <;> try simp only [zB]
       simp (maxSteps := 3000000) only [List.take_length, go_sem, ↓zA, ↓reduceIte, ↓reduceDIte] <;> try simp only [zB]
       refine uQ 600 _ ?_
       simp (maxSteps := 3000000) only [hol, hget, Nat.zero_add, go_sem, ↓zA, ↓reduceIte, ↓reduceDIte] <;> try simp only [zB]
       have hw1 : wntT l (i + 1) = wntT l i := by unfold wntT; rw [hTs, if_neg (by simpa using hk)]
       refine ⟨hlt, ?_⟩
       refine roundR (fun h => h) (i + 1) ⟨hlt, fun j hj => hall' j hj h100⟩ (by show l.length - (i + 1) < l.length - i; omega) ?_ ?_ ?_ ?_ ?_
       · with_reducible refine sx1 hwr ?_; trivial
       · dsimp only
         rw [hset, hw1]
         exact ⟨rfl, rfl, rfl, rfl, rfl, rfl, trivial⟩
       · kernel_rfl
       · kernel_rfl
       kernel_rfl
     have f100 : ((100 : Int) < (x.2.length : Int)) = True := eq_true (by omega)
     refine uQ 600 _ ?_
     simp (maxSteps := 3000000) only [f100, go_sem, ↓zA, ↓reduceIte, ↓reduceDIte] <;> try simp only [zB]
     refine q0a q6W ?_
     refine uQ 600 _ ?_
     with_reducible refine sxE ?_; trivial
   obtain rfl : i = l.length := by omega
   have f1 : ((l.length : Int) < (l.length : Int)) = False := eq_false (by omega)
   refine uQ 10 _ ?_
   simp (maxSteps := 3000000) only [f1, go_sem, ↓zA, ↓reduceIte, ↓reduceDIte] <;> try simp only [zB]
   refine z3X unM 4 6 l.length rfl rfl rfl rfl ?_ ?_
   · rintro z hz I w us ⟨v1, v2, rfl, h1, h2⟩
     obtain ⟨x, _, rfl⟩ := z1Q hz
     exact ⟨v1, v2, rfl, h1, q7h.1 h2⟩
   rw [z4G]
   with_reducible refine sxE ?_
   refine q1u 4 rfl rfl (by omega) ?_ ?_ ?_
   · simp (maxSteps := 3000000) only [Nat.le_refl, go_sem, ↓zA, ↓reduceIte, ↓reduceDIte] <;> try simp only [zB]
   · simp (maxSteps := 3000000) only [Nat.le_refl, go_sem, ↓zA, ↓reduceIte, ↓reduceDIte] <;> try simp only [zB]
   simp (maxSteps := 3000000) only [List.take_length, go_sem, ↓zA, ↓reduceIte, ↓reduceDIte] <;> try simp only [zB]
   refine uQ 1 _ ?_
   with_reducible refine sxE ?_
   unfold lpA lpHA
   refine ⟨?_, rfl, h20, hall⟩
   with_reducible refine sxE ?_; trivial
 have f20 : ((20 : Int) < (l.length : Int)) = True := eq_true (by omega)
 refine uQ 600 _ ?_
 simp (maxSteps := 3000000) only [f20, go_sem, ↓zA, ↓reduceIte, ↓reduceDIte] <;> try simp only [zB]
 refine q0a q6W ?_
 refine uQ 600 _ ?_
 with_reducible refine sxE ?_; trivial
theorem z8S (a b : Pre) : PC Tryz.prog 12 [.agg (PreT.cells a), .agg (PreT.cells b)] (rB (decide (a.1 = b.1) && decide (a.2 = b.2))) := by
 refine q0A rfl rfl ?_
 refine rQ fi12 ?_
 refine ⟨fun h => ?_, fun h => ?_⟩
 · rw [decide_eq_true h, Bool.true_and]
   exact decide_eq_decide.2 z3k
 rw [decide_eq_false h]; rfl
def lpB (f : SV) : List SV := [.any, .any, .ptr 0 0, .ptr 1 0, .ptr 2 0, .ptr 3 0, .any, .any, f] ++ List.replicate 157 .any
def lpFn (l : List Pre) : SV := .fn 47 [] [.iptr (.slice PreT) (keptT l) 0]
def lpB2 (l : List Pre) : List SV := (lpB (lpFn l)).set 11 (.ptr 6 0)
theorem z1x {l : List Pre} (h : smlT l) : ∀ x ∈ l, x.2.length ≤ 1000 := fun x hx => by
 obtain ⟨j, hj, rfl⟩ := List.getElem_of_mem hx
 have h1 := h.2 j hj
 have e : l.getD j PreT.dflt = l[j] := by rw [List.getD_eq_getElem?_getD, List.getElem?_eq_getElem hj]; rfl
 rw [e] at h1
 omega
theorem z9w (l : List Pre) (many : Int) (hs : smlT l) (q : Nat → Prop) (w1 : World) (N : Nat) (v : Value) (hv : Sl q w1 PreT l v) : @SoundI (frzN q w1 N) Tryz.prog (retF Tryz.prog ir8.results (PK (rB true)))
 ⟨0, ((lpF.drop 7).take 3).map .ic ++ [.stop fun t H => leM t ((lpB (lpFn l)).set 6 (.raw v)) ∧ H = .cells 55 [.isl PreT l] :: lpHA l many], lpA.set 6 (.raw v), .cells 55 [.isl PreT l] :: lpHA l many⟩ := by
 letI : Ghost := frzN q w1 N
 simp only [lpF, ir8, flatI, go_sem, List.cons_append, List.nil_append, List.take_succ_cons, List.take_zero, List.drop_succ_cons, List.drop_zero, List.map_cons, List.map_nil]
 unfold lpA
 refine uQ 600 _ ?_
 with_reducible refine sxE ?_
 refine callN (z7A l hv (by have := hs.1; omega) (z1x hs)) ?_
 refine uQ 600 _ ?_
 with_reducible refine sxE ?_
 unfold lpB lpFn
 with_reducible refine sxE ?_; trivial
theorem z8b (l : List Pre) (many : Int) (hs : smlT l) (q : Nat → Prop) (w1 : World) (v : Value) (hv : Sl q w1 PreT l v) : @SoundI (scrG q w1) Tryz.prog (retF Tryz.prog ir8.results (PK (rB true)))
 ⟨0, ((lpF.drop 10).take 3).map .ic ++ [.stop fun t H => leM t (lpB2 l) ∧ H = .cells 55 [.isl PreT l] :: (lpHA l many ++ [.cells 3 [rI 0]])], (lpB (lpFn l)).set 6 (.raw v), .cells 55 [.isl PreT l] :: lpHA l many⟩ := by
 letI : Ghost := scrG q w1
 have hok : (Ty.slice PreT).ok l := Ty.rel_ok _ _ _ hv
 have hlen := hs.1
 obtain ⟨A, c, rfl, hA⟩ := hv.out
 simp only [lpF, ir8, flatI, go_sem, List.cons_append, List.nil_append, List.take_succ_cons, List.take_zero, List.drop_succ_cons, List.drop_zero, List.map_cons, List.map_nil]
 unfold lpB lpFn
 refine uQ 600 _ ?_
 with_reducible refine sxE ?_
 refine z6W 9 l.length (fun _ => True) ?_ fun i hi _ => ?_
 · with_reducible refine sxE ?_; trivial
 have hwr := wsx i (by omega)
 by_cases hlt : i < l.length
 · have f1 : ((i : Int) < (l.length : Int)) = True := eq_true (by omega)
   rcases hA with h0 | ⟨b, o, rfl, hat⟩
   · exfalso; rw [h0] at hlt; exact absurd hlt (by simp)
   have hg : l[i]? = some (l.getD i PreT.dflt) := by rw [List.getD_eq_getElem?_getD, List.getElem?_eq_getElem hlt]; rfl
   have hx := hat i _ hg
   have hbx := hs.2 i hlt
   generalize l.getD i PreT.dflt = x at *
   refine uQ 600 _ ?_
   simp (maxSteps := 3000000) only [f1, go_sem, ↓zA, ↓reduceIte, ↓reduceDIte] <;> try simp only [zB]
   refine ⟨⟨by omega, hlt⟩, z2w hx.1 hx.fst.int ?_⟩
   refine uQ 600 _ ?_
   with_reducible refine sxE ?_
   refine z6W 10 x.2.length (fun _ => True) ?_ fun j hj _ => ?_
   · with_reducible refine sxE ?_; trivial
   have hwj := wsx j (by omega)
   refine uQ 600 _ ?_
   with_reducible refine sxE ?_
   refine ⟨⟨by omega, hlt⟩, z7d (t := .u8) (ys := x.2) hx.snd fun v hv' => ?_⟩
   obtain ⟨A', c', rfl, hA'⟩ := hv'.out
   by_cases hj2 : j < x.2.length
   · have f2 : ((j : Int) < (x.2.length : Int)) = True := eq_true (by omega)
     refine uQ 600 _ ?_
     simp (maxSteps := 3000000) only [f2, go_sem, ↓zA, ↓reduceIte, ↓reduceDIte] <;> try simp only [zB]
     refine ⟨⟨by omega, hlt⟩, z7d (t := .u8) (ys := x.2) hx.snd fun v hv2 => ?_⟩
     obtain ⟨A2, c2, rfl, hA2⟩ := hv2.out
     rcases hA2 with h0 | ⟨b2, o2, rfl, hat2⟩
     · exfalso; rw [h0] at hj2; exact absurd hj2 (by simp)
     have hy := hat2 j _ (List.getElem?_eq_getElem hj2)
     refine uQ 600 _ ?_
     with_reducible refine sxE ?_
     refine ⟨⟨by omega, hj2⟩, z9v hy.1 hy.u8 fun n => ?_⟩
     refine uQ 600 _ ?_
     with_reducible refine sxE ?_
     refine ⟨⟨by omega, hj2⟩, z2w hy.1 hy.u8 ?_⟩
     refine uQ 600 _ ?_
     with_reducible refine sxE ?_
     refine ⟨j + 1, hj2, by show x.2.length - (j + 1) < x.2.length - j; omega, rfl, ?_⟩
     with_reducible refine sx1 hwj ?_; trivial
   obtain rfl : j = x.2.length := by omega
   have f2 : ((x.2.length : Int) < (x.2.length : Int)) = False := eq_false (by omega)
   refine uQ 600 _ ?_
   simp (maxSteps := 3000000) only [f2, go_sem, ↓zA, ↓reduceIte, ↓reduceDIte] <;> try simp only [zB]
   refine ⟨i + 1, hlt, by show l.length - (i + 1) < l.length - i; omega, rfl, ?_⟩
   with_reducible refine sx1 hwr ?_; trivial
 obtain rfl : i = l.length := by omega
 have f1 : ((l.length : Int) < (l.length : Int)) = False := eq_false (by omega)
 refine uQ 600 _ ?_
 simp (maxSteps := 3000000) only [f1, go_sem, ↓zA, ↓reduceIte, ↓reduceDIte] <;> try simp only [zB]
 unfold lpB2 lpB lpFn lpHA
 with_reducible refine sxE ?_; trivial
def incT (b : List UInt8) (c : Nat) : List UInt8 := (b.take c).map (· + 1) ++ b.drop c
theorem z6q {b : List UInt8} {c : Nat} : (incT b c).length = b.length := by simp only [incT, List.length_append, List.length_map, List.length_take, List.length_drop]; omega
theorem z2s (b : List UInt8) : incT b 0 = b := by simp [incT]
theorem z5B {b : List UInt8} {c : Nat} (hc : c < b.length) : (incT b c).getD c Ty.u8.dflt = b[c] := by
 unfold incT
 rw [List.getD_eq_getElem?_getD, List.getElem?_append_right (by simp; omega)]
 have e1 : c - ((b.take c).map (· + 1)).length = 0 := by simp; omega
 rw [e1, List.drop_eq_getElem_cons hc]
 rfl
theorem z6c {b : List UInt8} {c : Nat} (hc : c < b.length) : (incT b c).set c (b[c] + 1) = incT b (c + 1) := by
 unfold incT
 rw [List.set_append_right _ _ (by simp; omega)]
 have e1 : c - ((b.take c).map (· + 1)).length = 0 := by simp; omega
 rw [e1, List.drop_eq_getElem_cons hc, List.set_cons_zero, List.take_add_one, List.getElem?_eq_getElem hc, List.map_append, List.append_assoc]
 rfl
def lpC (l : List Pre) (many turn k : Int) : List SObj := .cells 55 [.isl PreT l] :: lpHA l many ++ [.cells 3 [rI turn], .cells 3 [rI k]]
def lpH (l : List Pre) (many : Int) (turn : Nat) (r : Nat) (H' : List SObj) : Prop := (turn = 0 → r = 0 ∨ (r : Int) < many) ∧ ∃ G, H' = lpC l many turn r ++ G
def lpX (l : List Pre) (many : Int) (turn : Nat) (r : Nat) (ex : Ex) (H' : List SObj) : Prop := ex = .exit 8 ∧ turn = 0 ∧ (r = 0 ∨ (r : Int) < many) ∧ many ≤ r + 1 ∧ ∃ G, H' = lpC l many turn (r + 1 : Nat) ++ G
def lpSt (l : List Pre) (many : Int) (turn : Nat) (t : List SV) (H : List SObj) : Prop := turn ≤ 2 ∧ ∃ M G, H = (.cells 55 [.isl PreT l] :: lpHA l many) ++ (M ++ .cells 3 [rI turn] :: G) ∧ t = (lpB (lpFn l)).set 11 (.ptr (6 + M.length) 0)
theorem z5C (l : List Pre) (many : Int) (hok : (Ty.slice PreT).ok l) (hs : smlT l) : SoundI0 (topG noFG []) Tryz.prog (retF Tryz.prog ir8.results (PK (rB true)))
 ((lpF.drop 13).map .ic) (lpB2 l) (.cells 55 [.isl PreT l] :: (lpHA l many ++ [.cells 3 [rI 0]])) := by
 simp only [lpF, ir8, flatI, go_sem, List.cons_append, List.nil_append, List.drop_succ_cons, List.drop_zero, List.map_cons, List.map_nil]
 have hlen := hs.1
 have hkl : (keptT l).length = l.length := by rw [keptT, List.length_map]
 have htx : ∀ n, tix (keptT l) n = tix l n := fun n => by unfold tix; congr 1; funext j; exact j0j l j
 have hkm : ∀ x ∈ keptT l, x.2.length ≤ 1000 := fun y hy => by
  obtain ⟨x, hx, rfl⟩ := List.mem_map.1 hy
  have := z1x hs x hx
  unfold tkp
  split
  · exact this
  exact Nat.zero_le _
 have hkok : (Ty.slice PreT).ok (keptT l) := ⟨by omega, fun y hy => by
  obtain ⟨x, hx, rfl⟩ := List.mem_map.1 hy
  have := hok.2 x hx
  unfold tkp
  split
  · exact this
  exact ⟨this.1, Nat.zero_le _, fun _ h => by cases h⟩⟩
 have hit := z5Q (keptT l) hkok (by omega) hkm
 rw [hkl, htx] at hit
 have hwl : (wntT l l.length).length = (tix l l.length).length := by rw [wntT, List.length_map]
 have hN : (tix l l.length).length ≤ l.length := by
  simp only [tix]
  exact Nat.le_trans (List.length_filter_le _ _) (by simp)
 refine z6M (lpSt l many) (fun turn => 2 - turn) 0 (lpB2 l) (by rfl) (z0N _) ⟨by omega, [], [], by simp, rfl⟩ rfl ?_
 rintro turn _ _ ⟨hturn, M, G, rfl, rfl⟩ Ds
 letI : Ghost := topG noFG Ds
 refine j0v (σ := fun h => if h = 6 then 6 + M.length else h) (t' := lpB2 l) (H' := .cells 55 [.isl PreT l] :: (lpHA l many ++ [.cells 3 [rI turn]])) rfl ⟨?_, ?_, ?_, ?_, ?_, rfl, Nat.zero_le _, fun _ h0 => absurd h0 (Nat.lt_irrefl 0)⟩ ?_
 · unfold lpB2 lpB lpFn
   with_reducible refine sxE ?_; trivial
 · unfold lpHA
   refine ⟨rfl, rfl, rfl, rfl, rfl, ?_, trivial⟩
   show (_ ++ (M ++ _))[6 + M.length]? = _
   rw [List.getElem?_append_right (by simp)]
   show (M ++ _)[6 + M.length - 6]? = _
   rw [Nat.add_sub_cancel_left, List.getElem?_append_right (Nat.le_refl _), Nat.sub_self]
   rfl
 · kernel_rfl
 · kernel_rfl
 · unfold lpHA
   simp [injH]
   omega
 clear M G
 unfold lpB2 lpB lpFn lpHA
 have hwr : turn < 2 → IntKind.i64.wrap ((turn : Int) + 1) = ((turn + 1 : Nat) : Int) := fun _ => q2o (by omega)
 have hend : turn < 2 → ∀ (k : Nat) (G : List SObj) (t : List SV), leM t ((lpB (lpFn l)).set 11 (.ptr (G.length + 1 + 1 + 1 + 1 + 1 + 1 + 1 + 1) 0)) → LoopQ Tryz.prog (retF Tryz.prog [.cell 4 4] (PK (rB true))) (lpSt l many) (fun turn => 2 - turn) 6 [.ic (.reg [o1 165 (.call (.func 9) []), o0 (.st 1 (.tmp 4) (.tmp 165))]), .ic .ret] turn .normal t
  (lpC l many turn k ++ (G ++ [.cells 3 [.raw (.int .i64 (IntKind.i64.wrap ((turn : Int) + 1)))]])) := fun h2 k G t hl => by
  refine ⟨turn + 1, _, by show 2 - (turn + 1) < 2 - turn; omega, hl, by omega, [.cells 3 [rI turn], .cells 3 [rI k]] ++ G, [], ?_, ?_⟩
  · rw [hwr h2]
    simp [lpC]
  congr 2
  simp only [List.length_append, List.length_cons, List.length_nil]
  omega
 by_cases ht : turn < 2
 · have f1 : ((turn : Int) < 2) = True := eq_true (by omega)
   refine uQ 600 _ ?_
   simp (maxSteps := 3000000) only [f1, go_sem, ↓zA, ↓reduceIte, ↓reduceDIte] <;> try simp only [zB]
   refine z7U (lpH l many turn) (lpX l many turn) rfl rfl rfl hit (fun i n args' new h => by rw [h.1]; rfl) ⟨fun _ => .inl rfl, [], rfl⟩ rfl ?_ ?_ ?_
   · rintro r _ args' new hr ⟨hk, G, rfl⟩ ⟨rfl, rfl⟩ L1 L2
     letI : Ghost := pinG noFG L1
     unfold lpC lpHA
     refine uQ 600 _ ?_
     simp only [putL, List.toList_toArray]
     with_reducible refine sxaE ?_
     letI : Ghost := pinG noFG L2
     refine uQ 3 _ ?_
     with_reducible refine sxaE ?_
     have hjt : ∃ j, j < l.length ∧ isT l j = true ∧ (tix l l.length)[r]? = some j := by
      refine ⟨(tix l l.length)[r], ?_, ?_, List.getElem?_eq_getElem hr⟩
      · have := List.getElem_mem hr
        simp only [tix, List.mem_filter, List.mem_range] at this
        exact this.1
      have := List.getElem_mem hr
      simp only [tix, List.mem_filter, List.mem_range] at this
      exact this.2
     obtain ⟨j, hj1, hj2, hj3⟩ := hjt
     have hjd : (tix (keptT l) (keptT l).length).getD r 0 = j := by rw [hkl, htx, List.getD_eq_getElem?_getD, hj3]; rfl
     have hx2 : (l.getD j PreT.dflt).1 = 2 := by simpa [isT] using hj2
     have hkd : (keptT l).getD j PreT.dflt = l.getD j PreT.dflt := by
      have hg : l[j]? = some (l.getD j PreT.dflt) := by rw [List.getD_eq_getElem?_getD, List.getElem?_eq_getElem hj1]; rfl
      rw [List.getD_eq_getElem?_getD, keptT, List.getElem?_map, hg]
      show tkp _ = _
      rw [tkp, if_pos hx2]
     have hwg : (wntT l l.length).getD r I64.dflt = (j : Int) := by
      rw [List.getD_eq_getElem?_getD, wntT, List.getElem?_map, hj3]; rfl
     rw [hjd, hkd]
     generalize hxx : l.getD j PreT.dflt = x at *
     refine q1W [0, 3, 5, 7, G.length + 8, G.length + 9] mixed ?_
     refine uQ 600 _ ?_
     have e1 : ((tix l l.length).length ≤ r) = False := eq_false (by omega)
     have hxl : x.2.length ≤ 100 := by rw [← hxx]; exact hs.2 j hj1
     have hsm : PC Tryz.prog 12 [.agg [rI 2, .isl .u8 x.2], .agg [rI x.1, .isl .u8 x.2]] (rB true) := by
      have := z8S (2, x.2) x
      rw [show (decide ((((2 : Int), x.2) : Pre).1 = x.1) && decide ((((2 : Int), x.2) : Pre).2 = x.2)) = true by simp [hx2]] at this
      exact this
     simp (maxSteps := 3000000) only [e1, hwl, Nat.zero_add, hwg, hxx, List.append_assoc, getA, getA0, setA, setA0, List.length_append, Nat.add_assoc, go_sem, ↓zA, ↓reduceIte, ↓reduceDIte] <;> try simp only [zB]
     refine ⟨fun _ => ⟨⟨by omega, hr⟩, hr, ⟨by omega, hj1⟩, ?_⟩, fun h => absurd h (by omega)⟩
     refine q4M (G.length + 8) (args' := [.agg [rI 2, .isl .u8 x.2], .agg [rI x.1, .isl .u8 x.2]]) ?_ rfl hsm ?_
     · unfold borrowC
       with_reducible refine sxaE ?_
       exact ⟨by omega, Nat.le_refl _, by rw [List.take_length]⟩
     refine uQ 600 _ ?_
     with_reducible refine sxaE ?_
     refine q0p (ι := Nat) (fun c => [(15, rI c)]) (fun c => .cells 55 [.isl PreT l] :: .cells 3 [rI many] :: .cells 4 [.raw (.bool false)] :: .cells 56 [.bld 5 I64 (tix l l.length).length] :: .dead :: .row I64 (wntT l l.length) :: .cells 3 [rI turn] :: .cells 3 [rI r] ::
      (G ++ [.row .u8 (incT x.2 c), .cells 27 [rI 2, .bld (G.length + 8) .u8 x.2.length]])) (fun c => x.2.length - c) (fun c => c ≤ x.2.length) 0 (Nat.zero_le _) (by rw [z2s]) ?_ fun c hc => ?_
     · with_reducible refine sxaE ?_; trivial
     have hil := z6q (b := x.2) (c := c)
     have hwc := wsx c (by omega)
     have hwk := wsx r (by omega)
     by_cases hlt : c < x.2.length
     · have f2 : ((c : Int) < (x.2.length : Int)) = True := eq_true (by omega)
       refine uQ 600 _ ?_
       simp (maxSteps := 3000000) only [f2, hil, z5B hlt, Nat.zero_add, List.append_assoc, getA, getA0, setA, setA0, List.length_append, Nat.add_assoc, go_sem, ↓zA, ↓reduceIte, ↓reduceDIte] <;> try simp only [zB]
       refine ⟨⟨by omega, hlt⟩, hlt, ⟨by omega, hlt⟩, ⟨hlt, q7v _⟩, c + 1, hlt, by show x.2.length - (c + 1) < x.2.length - c; omega, ?_, ?_⟩
       · rw [z7q, z6c hlt]
       simp (maxSteps := 3000000) only [hwc, List.append_assoc, getA, getA0, setA, setA0, List.length_append, Nat.add_assoc, go_sem, ↓zA, ↓reduceIte, ↓reduceDIte] <;> try simp only [zB]
     obtain rfl : c = x.2.length := by omega
     have f2 : ((x.2.length : Int) < (x.2.length : Int)) = False := eq_false (by omega)
     refine uQ 600 _ ?_
     simp (maxSteps := 3000000) only [f2, List.append_assoc, getA, getA0, setA, setA0, List.length_append, Nat.add_assoc, go_sem, ↓zA, ↓reduceIte, ↓reduceDIte] <;> try simp only [zB]
     rw [hwk, ← hwl]
     refine ⟨fun h0 => ⟨fun hm => ?_, fun hm => ?_⟩, fun h0 => ?_⟩
     · exact ⟨rfl, by omega, hk (by omega), by omega, _, rfl⟩
     · exact ⟨fun _ => .inr (by omega), _, rfl⟩
     exact ⟨fun h => absurd h (by omega), _, rfl⟩
   · rintro D _ ⟨hk, G, rfl⟩
     unfold lpC lpHA
     letI : Ghost := topG noFG (D :: Ds)
     refine uQ 600 _ ?_
     rcases (show turn = 0 ∨ turn = 1 by omega) with h0 | h0
     · have e0 : ((turn : Int) = 0) = True := eq_true (by omega)
       have e1 : ((turn : Int) = 1) = False := eq_false (by omega)
       have e2 : (((tix l l.length).length : Int) = mxV false ((wntT l l.length).length : Int) (mxV true 1 many)) = True := eq_true (by
        have := hk h0
        rw [hwl]
        unfold mxV
        simp only [Bool.false_eq_true, if_false, if_true]
        split <;> split <;> omega)
       simp (maxSteps := 3000000) only [e0, e1, e2, go_sem, ↓zA, ↓reduceIte, ↓reduceDIte] <;> try simp only [zB]
       refine hend ht (tix l l.length).length G _ ?_
       unfold lpB lpFn
       with_reducible refine sxE ?_; trivial
     have e0 : ((turn : Int) = 0) = False := eq_false (by omega)
     have e1 : ((turn : Int) = 1) = True := eq_true (by omega)
     have e2 : (((tix l l.length).length : Int) = ((wntT l l.length).length : Int)) = True := eq_true (by omega)
     simp (maxSteps := 3000000) only [e0, e1, e2, go_sem, ↓zA, ↓reduceIte, ↓reduceDIte] <;> try simp only [zB]
     refine hend ht (tix l l.length).length G _ ?_
     unfold lpB lpFn
     with_reducible refine sxE ?_; trivial
   rintro D r ex _ hr ⟨rfl, rfl, hk, hm, G, rfl⟩
   refine ⟨_, rfl, ?_⟩
   unfold lpC lpHA
   letI : Ghost := topG noFG (D :: Ds)
   refine uQ 600 _ ?_
   have e2 : (((r + 1 : Nat) : Int) = mxV false ((wntT l l.length).length : Int) (mxV true 1 many)) = True := eq_true (by
    rw [hwl]
    unfold mxV
    simp only [Bool.false_eq_true, if_false, if_true]
    split <;> split <;> omega)
   simp (maxSteps := 3000000) only [e2, go_sem, ↓zA, ↓reduceIte, ↓reduceDIte] <;> try simp only [zB]
   refine hend ht (r + 1) G _ ?_
   unfold lpB lpFn
   with_reducible refine sxE ?_; trivial
 obtain rfl : turn = 2 := by omega
 have f1 : (((2 : Nat) : Int) < 2) = False := eq_false (by omega)
 refine uQ 600 _ ?_
 simp (maxSteps := 3000000) only [f1, go_sem, ↓zA, ↓reduceIte, ↓reduceDIte] <;> try simp only [zB]
 refine ⟨rfl, fun Ds => ?_⟩
 letI : Ghost := topG noFG Ds
 refine uQ 600 _ ?_
 with_reducible refine sxE ?_
 refine q0a q6W ?_
 refine uQ 600 _ ?_
 with_reducible refine sxE ?_; trivial
theorem z9B (l : List Pre) (many : Int) (hok : (Ty.slice PreT).ok l) : PC Tryz.prog 8 [.isl PreT l, rI many] (rB true) := by
 refine q0A rfl rfl (q7I (q3p noFG fi8 ?_))
 letI : Ghost := topG noFG []
 refine z7I ?_ rfl
 rw [List.append_nil, show flatI ir8.code = lpF.take 7 ++ ((lpF.drop 7).take 3 ++ ((lpF.drop 10).take 3 ++ lpF.drop 13)) by rfl]
 refine z4I (ty := PreT) (l := l) (tA := lpA) (tB := lpB (lpFn l)) (tM := lpB2 l) (HA := lpHA l many) (HB := .cells 55 [.isl PreT l] :: lpHA l many) (HM := .cells 55 [.isl PreT l] :: (lpHA l many ++ [.cells 3 [rI 0]])) (i := 0) (so := 6) (T0 := 55) (p := smlT l) (by rfl) (fun _ _ _ h => h) (fun _ _ _ h => by cases h) rfl (by rfl) (by rfl) (by decide) (by rfl) ?_ ?_ ?_ ?_
 · exact fun q w0 v hv => z8A l many q w0 v hv
 · exact fun hs q w1 N v hv _ => z9w l many hs q w1 N v hv
 · exact fun hs q w1 v hv => z8b l many hs q w1 v hv
 exact fun hs => z5C l many hok hs
end Go.Proofs.YtikapabgggphpaaGreatDoor
