/- Contracts of the library, laid by the kit. -/
import Derived.Shelf.Strings.OnBuilder
import Derived.Shelf.LaysM
import Derived.Shelf.Strconv.Itoa3
import Derived.Test.YtkbbkhmffmfliaaGreatDoorProg
import Derived.Test.YtkbbkhmffmfliaaGreatDoorP21
import Derived.Below
import Derived.Deep.Draws
import Derived.Sort.Grow
import Derived.Test.YtkbbkhmffmfliaaGreatDoorP22
import Derived.Lib.ItoaLen
import Derived.Test.YtkbbkhmffmfliaaGreatDoorP18
import Derived.Test.YtkbbkhmffmfliaaGreatDoorP14
import Derived.Test.YtkbbkhmffmfliaaGreatDoorP23
import Derived.Test.YtkbbkhmffmfliaaGreatDoorP20
import Derived.Test.YtkbbkhmffmfliaaGreatDoorP25
set_option linter.all false
namespace Go.Proofs
open Go.Shelf
def Tryz.lays156_ren : Go.Shelf.Ren := ⟨fun | 156 => 286 | 165 => 296 | 166 => 297 | 169 => 298 | 240 => 316 | 241 => 317 | 276 => 339 | 277 => 328 | n => n, fun | 31 => 26 | 9 => 9 | 3 => 3 | 4 => 4 | 0 => 0 | 20 => 20 | 72 => 294 | 76 => 298 | 70 => 292 | 37 => 34 | 75 => 297 | 127 => 323 | 164 => 345 | 5 => 5 | 80 => 300 | n => n, fun | n => n⟩
theorem Tryz.lays156 : Go.Proofs.Lays.n156 Tryz.prog Tryz.lays156_ren := {
  mixed := by kernel_rfl
  f156 := Tryz.func286.trans (congrArg some (by kernel_rfl))
  f165 := Tryz.func296.trans (congrArg some (by kernel_rfl))
  f166 := Tryz.func297.trans (congrArg some (by kernel_rfl))
  f169 := Tryz.func298.trans (congrArg some (by kernel_rfl))
  f240 := Tryz.func316.trans (congrArg some (by kernel_rfl))
  f241 := Tryz.func317.trans (congrArg some (by kernel_rfl))
  f276 := Tryz.func339.trans (congrArg some (by kernel_rfl))
  f277 := Tryz.func328.trans (congrArg some (by kernel_rfl))
  t0 := Tryz.underlying0
  a0 := Tryz.isAgg0
  z0 := Tryz.sizeOf0
  v0 := Tryz.zeroValue0
  t3 := Tryz.underlying3
  a3 := Tryz.isAgg3
  z3 := Tryz.sizeOf3
  v3 := Tryz.zeroValue3
  t4 := Tryz.underlying4
  a4 := Tryz.isAgg4
  z4 := Tryz.sizeOf4
  v4 := Tryz.zeroValue4
  t9 := Tryz.underlying9
  a9 := Tryz.isAgg9
  z9 := Tryz.sizeOf9
  v9 := Tryz.zeroValue9
  t20 := Tryz.underlying20
  a20 := Tryz.isAgg20
  z20 := Tryz.sizeOf20
  v20 := Tryz.zeroValue20
  t31 := Tryz.underlying26
  a31 := Tryz.isAgg26
  z31 := Tryz.sizeOf26
  v31 := Tryz.zeroValue26
  t37 := Tryz.underlying34
  a37 := Tryz.isAgg34
  z37 := Tryz.sizeOf34
  v37 := Tryz.zeroValue34
  t70 := Tryz.underlying292
  a70 := Tryz.isAgg292
  z70 := Tryz.sizeOf292
  v70 := Tryz.zeroValue292
  t72 := Tryz.underlying294
  a72 := Tryz.isAgg294
  z72 := Tryz.sizeOf294
  v72 := Tryz.zeroValue294
  t75 := Tryz.underlying297
  a75 := Tryz.isAgg297
  z75 := Tryz.sizeOf297
  v75 := Tryz.zeroValue297
  t76 := Tryz.underlying298
  a76 := Tryz.isAgg298
  z76 := Tryz.sizeOf298
  v76 := Tryz.zeroValue298
  t127 := Tryz.underlying323
  a127 := Tryz.isAgg323
  z127 := Tryz.sizeOf323
  v127 := Tryz.zeroValue323
  t164 := Tryz.underlying345
  a164 := Tryz.isAgg345
  z164 := Tryz.sizeOf345
  v164 := Tryz.zeroValue345 }
theorem Tryz.Builder_Extra_156 : Builder.Extra Tryz.prog Tryz.lays156_ren := {
  sizeBuilder := by kernel_rfl
  liesBuilder := by kernel_rfl
  t5 := Tryz.underlying5
  a5 := Tryz.isAgg5
  z5 := Tryz.sizeOf5
  v5 := Tryz.zeroValue5
  infoByte := by kernel_rfl
  cellsByte := by kernel_rfl
  sizeByte := by kernel_rfl
  neB5 := by decide }
open Go.RowKit in
theorem Tryz.strings_Join_none (a : Option Addr) (c : Nat) (sep : ByteArray) (w : World) :
    Calls Tryz.prog 286 #[.slice a 0 c, .string sep] w fun e w' => e = .returned (.string ⟨#[]⟩) ∧ w' = w := Any.strings_Join_none Tryz.lays156 Tryz.Builder_Extra_156 a c sep w
open Go.RowKit in
theorem Tryz.strings_Join (bk o c : Nat) (xs : List ByteArray) (sep : ByteArray) (w : World) (hcells : ∀ (j : Nat) x, xs[j]? = some x → w.cell? ⟨bk, o + j, none⟩ = some (.string x)) (hbk : bk < w.heap.size) (hN : xs.length ≤ 140737488355328) (hcap : xs.length ≤ c) (hlen : (Lib.join (xs.map (·.data.toList)) sep.data.toList).length ≤ 140737488355328) :
    Calls Tryz.prog 286 #[.slice (some ⟨bk, o, none⟩) xs.length c, .string sep] w fun e w' => e = .returned (.string ⟨(Lib.join (xs.map (·.data.toList)) sep.data.toList).toArray⟩) ∧ Below w.heap.size w w' := Any.strings_Join Tryz.lays156 Tryz.Builder_Extra_156 bk o c xs sep w hcells hbk hN hcap hlen
def Tryz.laysM171_ren : Go.Shelf.Ren := ⟨fun | 171 => 269 | 243 => 287 | 246 => 299 | 283 => 300 | 284 => 301 | 285 => 302 | 286 => 303 | 129 => 319 | 317 => 318 | 318 => 320 | 319 => 321 | 320 => 322 | 337 => 340 | 338 => 341 | n => n, fun | 3 => 3 | 9 => 9 | 2 => 2 | 4 => 4 | 171 => 302 | 0 => 0 | 53 => 279 | 37 => 34 | 5 => 5 | 173 => 305 | 212 => 325 | 51 => 24 | 20 => 20 | 213 => 326 | 46 => 150 | 232 => 320 | 233 => 358 | n => n, fun | 17 => 3 | 18 => 4 | 19 => 5 | n => n⟩
theorem Tryz.laysM171 : Go.Proofs.LaysM.n171 Tryz.prog Tryz.laysM171_ren := {
  mixed := by kernel_rfl
  f129 := Tryz.func319.trans (congrArg some (by kernel_rfl))
  f171 := Tryz.func269.trans (congrArg some (by kernel_rfl))
  f243 := Tryz.func287.trans (congrArg some (by kernel_rfl))
  f246 := Tryz.func299.trans (congrArg some (by kernel_rfl))
  f283 := Tryz.func300.trans (congrArg some (by kernel_rfl))
  f284 := Tryz.func301.trans (congrArg some (by kernel_rfl))
  f285 := Tryz.func302.trans (congrArg some (by kernel_rfl))
  f286 := Tryz.func303.trans (congrArg some (by kernel_rfl))
  f317 := Tryz.func318.trans (congrArg some (by kernel_rfl))
  f318 := Tryz.func320.trans (congrArg some (by kernel_rfl))
  f319 := Tryz.func321.trans (congrArg some (by kernel_rfl))
  f320 := Tryz.func322.trans (congrArg some (by kernel_rfl))
  f337 := Tryz.func340.trans (congrArg some (by kernel_rfl))
  f338 := Tryz.func341.trans (congrArg some (by kernel_rfl))
  t0 := Tryz.underlying0
  a0 := Tryz.isAgg0
  z0 := Tryz.sizeOf0
  v0 := Tryz.zeroValue0
  t2 := Tryz.underlying2
  a2 := Tryz.isAgg2
  z2 := Tryz.sizeOf2
  v2 := Tryz.zeroValue2
  t3 := Tryz.underlying3
  a3 := Tryz.isAgg3
  z3 := Tryz.sizeOf3
  v3 := Tryz.zeroValue3
  t4 := Tryz.underlying4
  a4 := Tryz.isAgg4
  z4 := Tryz.sizeOf4
  v4 := Tryz.zeroValue4
  t5 := Tryz.underlying5
  a5 := Tryz.isAgg5
  z5 := Tryz.sizeOf5
  v5 := Tryz.zeroValue5
  t9 := Tryz.underlying9
  a9 := Tryz.isAgg9
  z9 := Tryz.sizeOf9
  v9 := Tryz.zeroValue9
  t20 := Tryz.underlying20
  a20 := Tryz.isAgg20
  z20 := Tryz.sizeOf20
  v20 := Tryz.zeroValue20
  t37 := Tryz.underlying34
  a37 := Tryz.isAgg34
  z37 := Tryz.sizeOf34
  v37 := Tryz.zeroValue34
  t46 := Tryz.underlying150
  a46 := Tryz.isAgg150
  z46 := Tryz.sizeOf150
  v46 := Tryz.zeroValue150
  t51 := Tryz.underlying24
  a51 := Tryz.isAgg24
  z51 := Tryz.sizeOf24
  v51 := Tryz.zeroValue24
  t53 := Tryz.underlying279
  a53 := Tryz.isAgg279
  z53 := Tryz.sizeOf279
  v53 := Tryz.zeroValue279
  t171 := Tryz.underlying302
  a171 := Tryz.isAgg302
  z171 := Tryz.sizeOf302
  v171 := Tryz.zeroValue302
  t173 := Tryz.underlying305
  a173 := Tryz.isAgg305
  z173 := Tryz.sizeOf305
  v173 := Tryz.zeroValue305
  t212 := Tryz.underlying325
  a212 := Tryz.isAgg325
  z212 := Tryz.sizeOf325
  v212 := Tryz.zeroValue325
  t213 := Tryz.underlying326
  a213 := Tryz.isAgg326
  z213 := Tryz.sizeOf326
  t232 := Tryz.underlying320
  a232 := Tryz.isAgg320
  z232 := Tryz.sizeOf320
  v232 := Tryz.zeroValue320
  t233 := Tryz.underlying358
  a233 := Tryz.isAgg358
  z233 := Tryz.sizeOf358
  v233 := Tryz.zeroValue358
  g17 := by kernel_rfl
  g18 := by kernel_rfl
  g19 := by kernel_rfl
  i0 := by kernel_rfl
  i2 := by kernel_rfl
  i3 := by kernel_rfl
  i4 := by kernel_rfl
  i5 := by kernel_rfl
  i9 := by kernel_rfl
  i20 := by kernel_rfl
  i37 := by kernel_rfl
  i46 := by kernel_rfl
  i51 := by kernel_rfl
  i53 := by kernel_rfl
  i171 := by kernel_rfl
  i173 := by kernel_rfl
  i212 := by kernel_rfl
  i232 := by kernel_rfl
  i233 := by kernel_rfl
  m17 := by kernel_rfl
  m18 := by kernel_rfl
  m19 := by kernel_rfl }
open Go.RowKit Go.Sort Go.Lib in
theorem Tryz.strconv_Itoa (n : Int) (h0 : -9223372036854775808 ≤ n) (h1 : n ≤ 9223372036854775807) (w : World) (htab : Lib.TabIs Tryz.prog w "internal/strconv.uint64pow10" .u64 Lib.pow10Tab) :
    Calls Tryz.prog 269 #[.int .i64 n] w fun e w' => e = .returned (.string ⟨(Lib.itoa n).toArray⟩) ∧ ∃ k os, w' = grow (w.drewN k) os := Any.strconv_Itoa Tryz.laysM171 n h0 h1 w htab
end Go.Proofs
set_option linter.unusedSectionVars false
namespace Go.Sx
open Go

variable {P : Program}
def PCE (P : Program) (f : FuncId) (args : List SV) (p : SV → Prop) : Prop := enters P f = true ∧ ∀ (H : List SObj) (K : Out → List SObj → Prop), (∀ s, p s → K (.ret s) H) → VCall P f args H K
theorem PCE.mono {f : FuncId} {args : List SV} {p q : SV → Prop} (h : PCE P f args p) (hq : ∀ s, p s → q s) : PCE P f args q := ⟨h.1, fun H K hk => h.2 H K fun s hs => hk s (hq s hs)⟩
theorem z0I {f : FuncId} {us : Array Value} {p : SV → Prop} {C : Cx} {H : List SObj} {K : Out → List SObj → Prop} (hr : ∀ r, p r → r.clean = true) (hw : Wd C H)
 (h : Calls P f us C.w fun e w' => ∃ o H' C', (∃ r, p r ∧ o = .ret r) ∧ C'.w = w' ∧ Wd C' H' ∧ Ext ⟨{ C with n := 0 }, []⟩ C' H' ∧ outDen C' o e) (hk : ∀ r, p r → K (.ret r) H) :
 Calls P f us C.w fun e w' => ∃ o H' C', K o H' ∧ C'.w = w' ∧ Wd C' H' ∧ Ext ⟨C, H⟩ C' H' ∧ outDen C' o e := by
 refine h.mono ?_
 rintro e w' ⟨o, H', C', ⟨r, hp, rfl⟩, rfl, hw', hx, v, rfl, hd⟩
 have hold : ∀ b, b < C.w.heap.size → C'.w.heap[b]? = C.w.heap[b]? := fun b hb => hx.frame b hb (fun ⟨h, o, ho, _⟩ => by simp at ho)
 have hI : Keeps C.I C'.I C.w C'.w := hx.evo.I
 let D : Cx := { ρ := C.ρ, n := C.n, I := C'.I, w := C'.w }
 have hev : Evo C D := ⟨Nat.le_refl _, fun _ _ => rfl, hI, hx.evo.sz⟩
 have hIn : ∀ b, C'.I b → b < C.w.heap.size → C.I b := fun b hb hlt => by
  rcases hx.immNew b hb with h1 | ⟨h1 | ⟨h, o, ho, _⟩, _⟩
  · exact h1
  · exact absurd hlt (by have : C.w.heap.size ≤ b := h1; omega)
  simp at ho
 refine ⟨.ret r, H, D, hk r hp, rfl, ?_, ?_, v, rfl, q0Z (C := C') (C' := D) (Keeps.refl _ _) (hr r hp) hd⟩
 · refine ⟨hw.n, fun h o ho => ?_, fun b hb => ?_, hw.inj, hw'.imm⟩
   · have := hw.obj h o ho
     by_cases hl : o.live = true
     · exact q0W (C' := D) hI h rfl (fun b hb => hold b (hw.own b ⟨h, o, ho, hl, hb⟩).2) (q0v hev) this
     cases o <;> first | trivial | simp [SObj.live] at hl
   obtain ⟨h1, h2⟩ := hw.own b hb
   exact ⟨fun hi => h1 (hIn b hi h2), Nat.lt_of_lt_of_le h2 hx.size⟩
 refine ⟨hev, hx.size, hx.os, hx.tape, hx.output, fun b hb _ => hold b hb, fun b hb => ?_, fun b hb => .inr hb, fun _ _ h => h⟩
 rcases hx.immNew b hb with h1 | ⟨h1 | ⟨h, o, ho, _⟩, u⟩
 · exact .inl h1
 · exact .inr ⟨.inl h1, u⟩
 simp at ho
def PKX (p : SV → Prop) : Out → List SObj → Prop := fun o _ => ∃ s, p s ∧ o = .ret s
theorem q4v {f : FuncId} {args : List SV} {p : SV → Prop} (ha : SV.cleanL args = true) (hs : ∀ s, p s → s.clean = true) (h : VC P f args [] (PKX p)) : PCE P f args p :=
 ⟨h.1, fun _ _ hk C vs hw ht hv => z0I hs hw (h.2 { C with n := 0 } vs hw.nil ht (q2o (C := C) (C' := { C with n := 0 }) (Keeps.refl _ _) ha hv)) hk⟩
def SealE (p : SV → Prop) : Out → List SObj → Prop := fun o H => ∃ s, p s ∧ SealK s o H
theorem z8U {f : FuncId} {args : List SV} {p : SV → Prop} (ha : SV.cleanL args = true) (hs : ∀ s, p s → s.clean = true) (h : VC P f args [] (SealE p)) : PCE P f args p := by
 refine q4v ha hs ⟨h.1, fun C vs hw ht hv => (h.2 C vs hw ht hv).mono ?_⟩
 rintro e w' ⟨o, H', C', ⟨s, hp, hk⟩, rfl, hw', hx, hd⟩
 cases o with
 | pan s0 => exact hk.elim
 | ret s0 =>
  simp only [SealK] at hk
  split at hk
  · rename_i s1 q hs
    obtain ⟨v, rfl, hd⟩ := hd
    have hn : C.n = 0 := hw.n
    refine ⟨.ret s, [], C'.shut H', ⟨s, hp, rfl⟩, rfl, ⟨rfl, fun h o ho => by simp at ho, fun b ⟨h, o, ho, _⟩ => by simp at ho, fun h h' o o' b ho => by simp at ho, ?_⟩, ⟨⟨by rw [hn]; exact Nat.le_refl _, fun h hh => by rw [hn] at hh; exact absurd hh (Nat.not_lt_zero h), fun b hb => ⟨.inl (hx.evo.I b hb).1, (hx.evo.I b hb).2⟩, hx.evo.sz⟩, hx.size, hx.os, hx.tape, hx.output, hx.frame, ?_, fun b ⟨h, o, ho, _⟩ => by simp at ho, fun _ _ h => by simp at h⟩, v, rfl, q9q hk.2 (q5o hw' hs hk.1 hd)⟩
    · rintro b (hb | hb)
      · exact hw'.imm b hb
      exact (hw'.own b hb).2
    rintro b (hb | hb)
    · exact hx.immNew b hb
    exact .inr ⟨hx.ownNew b hb, (q4y hw' hb : Unf C'.w b)⟩
  exact hk.elim

section
variable [Ghost] {AQ : Ex → List SV → List SObj → Prop}
theorem q1V {f : FuncId} {args : List SV} {p : SV → Prop} {d : Option Tmp} {m : IM} (hp : PCE P f args p) (h : ∀ s, p s → SoundI P AQ { m with tmps := putT m.tmps d s }) : CallI P AQ f args d m :=
 ⟨hp.1, (hp.2 _ _ h).g⟩
theorem z6V {G : List Nat} {f : FuncId} {args : List SV} {p : SV → Prop} {d : Option Tmp} {m : IM} (hp : PCE P f args p) (h : ∀ s, p s → SoundI P AQ { m with tmps := putT m.tmps d s }) : CallR P AQ G f args d m :=
 ⟨hp.1, (hp.2 _ _ fun s hs => ⟨fun _ => SameG.refl _ _, h s hs⟩).g⟩
end

theorem j0h {f : FuncId} {args : List SV} {s : SV} (ha : SV.cleanL args = true) (hs : s.clean = true) (he : enters P f = true)
 (h : ∀ (C : Cx) (vs : List Value), (∀ b, C.I b → b < C.w.heap.size) → TabT C.I C.w → SV.denL C args vs → Calls P f vs.toArray C.w fun e w' => (∃ v, e = .returned v ∧ ∀ C' : Cx, C'.w = w' → C'.I = C.I → s.den C' v) ∧ RowKit.Below C.w.heap.size C.w w') : PC P f args s := by
 refine q0D ha hs ⟨he, fun C vs hw ht hv => (h C vs hw.imm ht hv).mono ?_⟩
 rintro e w' ⟨⟨v, rfl, hd⟩, hb⟩
 have hn : C.n = 0 := hw.n
 have hk : ∀ b, b < C.w.heap.size → w'.heap[b]? = C.w.heap[b]? := hb.block
 refine ⟨.ret s, [], { C with w := w' }, rfl, rfl, ⟨hn, fun h o ho => by simp at ho, fun b ⟨h, o, ho, _⟩ => by simp at ho, fun h h' o o' b ho => by simp at ho, fun b hb' => Nat.lt_of_lt_of_le (hw.imm b hb') hb.size⟩,
  ⟨⟨Nat.le_refl _, fun _ _ => rfl, fun b hI => ⟨hI, hk b (hw.imm b hI)⟩, fun b m hm => ?_⟩, hb.size, hb.os, hb.tape, hb.output, fun b hlt _ => hk b hlt, fun b hI => .inl hI, fun b ⟨h, o, ho, _⟩ => by simp at ho, fun _ _ h => h⟩, v, rfl, hd _ rfl rfl⟩
 unfold World.bsize at hm ⊢
 have hlt : b < C.w.heap.size := by
  rcases Nat.lt_or_ge b C.w.heap.size with h1 | h1
  · exact h1
  rw [Array.getElem?_eq_none h1] at hm; simp at hm
 rw [show ({ C with w := w' } : Cx).w.heap[b]? = C.w.heap[b]? from hk b hlt]; exact hm
theorem z4j (w : World) (k : Nat) (os : Array Obj) : RowKit.Below w.heap.size w (Go.Sort.grow (w.drewN k) os) :=
 ⟨rfl, rfl, rfl, by simp [Go.Sort.grow, World.drewN], fun b hb => by simp [Go.Sort.grow, World.drewN, Array.getElem?_append_left hb]⟩

section
variable {AQ : Ex → List SV → List SObj → Prop}
theorem z8M {I : Nat → Prop} {w : World} {b off : Nat} {vs : List Value} {v : Value} (ht : TabT I w) (hm : (b, vs) ∈ tabList) (hv : vs[off]? = some v) : w.cell? ⟨b, off, none⟩ = some v := by
 obtain ⟨_, T, fz, h⟩ := ht _ hm
 rw [q0z h]; exact hv
theorem j2P [Ghost] {b off : Nat} {vs : List Value} {v : Value} {d : Option Tmp} {m : IM} (hm : (b, vs) ∈ tabList) (hv : vs[off]? = some v) (hk : SoundI P AQ { m with tmps := putT m.tmps d (.raw v) }) : ZldI P AQ none b off d m := by
 rintro E C _ ⟨ht, _⟩
 refine ⟨.raw v, ⟨[.raw v], [v], by simp [SV.denL, SV.den], fun j u hj => ?_, rfl⟩, hk⟩
 cases j with
 | zero => cases hj; exact z8M ht hm hv
 | succ j => simp at hj
end
end Go.Sx
namespace Go.Proofs.YtkbbkhmffmfliaaGreatDoor
open Go Go.Sx Go.Proofs
set_option maxRecDepth 100000
set_option maxHeartbeats 4000000
theorem j1h {P : Program} {s : String} {k : Nat} (hk : k < tabList.length) (hP : P.globalNamed s = some (tabList[k].1)) {I : Nat → Prop} {w : World} (ht : TabT I w) : w.var? P s = some tabList[k].2.toArray := by
 obtain ⟨_, T, fz, hc⟩ := ht _ (List.getElem_mem hk)
 simp only [World.var?, hP, Option.bind_some, hc]
def itoaS (n : Nat) : ByteArray := ⟨(Lib.itoa n).toArray⟩
theorem j3W (n : Nat) (h : n < 256) : PC Tryz.prog 269 [rI n] (rS (itoaS n)) := by
 refine j0h rfl rfl (by kernel_rfl) fun C vs _ ht hv => ?_
 obtain ⟨v, us, rfl, hd, hn⟩ := q0j.1 hv
 rw [q0H] at hn; subst hn
 rw [SV.den] at hd; subst hd
 refine (Any.strconv_Itoa Tryz.laysM171 (n : Int) (by omega) (by omega) C.w (j1h (k := 0) (by decide) (by kernel_rfl) ht)).mono ?_
 rintro e w' ⟨rfl, k, os, rfl⟩
 exact ⟨⟨_, rfl, fun C' _ _ => by rw [SV.den]; rfl⟩, z4j _ _ _⟩
theorem z4C (n : Nat) (h : n < 256) : (itoaS n).size ≤ 32 := by
 have := Lib.itoa_length_le (n : Int) (by omega) (by omega)
 show (Lib.itoa n).toArray.size ≤ 32
 simp; omega
def joinS (xs : List ByteArray) (sep : ByteArray) : ByteArray := ⟨(Lib.join (xs.map (·.data.toList)) sep.data.toList).toArray⟩
theorem z5y {k : Nat} : ∀ (xs : List ByteArray), (∀ x ∈ xs, x.size ≤ k) → Lib.lens (xs.map (·.data.toList)) ≤ k * xs.length
 | [], _ => by simp [Lib.lens]
 | x :: xs, h => by
  have h1 := z5y xs fun y hy => h y (List.mem_cons_of_mem _ hy)
  have h2 := h x List.mem_cons_self
  have h3 : x.data.toList.length = x.size := rfl
  simp only [Lib.lens, List.map_cons, List.sum_cons, List.length_cons, Nat.mul_add, Nat.mul_one] at *
  omega
theorem z6a {k : Nat} (xs : List ByteArray) (sep : ByteArray) (h : ∀ x ∈ xs, x.size ≤ k) : (Lib.join (xs.map (·.data.toList)) sep.data.toList).length ≤ (sep.size + k) * xs.length := by
 cases xs with
 | nil => simp [Lib.join_nil]
 | cons x xs =>
  have h1 := z5y (x :: xs) h
  have h2 : sep.data.toList.length = sep.size := rfl
  rw [List.map_cons] at h1 ⊢
  rw [Lib.join_length, h2, List.length_map, Nat.add_mul, List.length_cons, Nat.mul_add]
  rw [List.length_cons] at h1
  omega
theorem q5l {k : Nat} (xs : List ByteArray) (sep : ByteArray) (h : ∀ x ∈ xs, x.size ≤ k) : (joinS xs sep).size ≤ (sep.size + k) * xs.length := by
 have := z6a xs sep h
 show (Lib.join _ _).toArray.size ≤ _
 simpa using this
theorem j1d (xs : List ByteArray) (sep : ByteArray) (h : ∀ x ∈ xs, x.size ≤ 65) (hl : xs.length ≤ 16) (hs : sep.size ≤ 16) : PC Tryz.prog 286 [.isl .str xs, rS sep] (rS (joinS xs sep)) := by
 have hle := z6a xs sep h
 have hle' : (Lib.join (xs.map (·.data.toList)) sep.data.toList).length ≤ 140737488355328 := by
  have : (sep.size + 65) * xs.length ≤ 81 * 16 := Nat.mul_le_mul (by omega) hl
  omega
 refine j0h rfl rfl (by kernel_rfl) fun C vs hI ht hv => ?_
 obtain ⟨v, us, rfl, hd, hn⟩ := q0j.1 hv
 obtain ⟨v2, us2, rfl, hd2, hn⟩ := q0j.1 hn
 rw [q0H] at hn; subst hn
 rw [SV.den] at hd2; subst hd2
 rw [SV.den] at hd
 obtain ⟨A, n, c, e, rfl, hc, _, hd⟩ := hd
 cases e
 rcases hd with rfl | ⟨b, off, rfl, hb, hd⟩
 · refine (Tryz.strings_Join_none A c sep C.w).mono ?_
   rintro e w' ⟨rfl, rfl⟩
   exact ⟨⟨_, rfl, fun C' _ _ => by rw [SV.den]; rfl⟩, RowKit.Below.refl _ _⟩
 refine (Tryz.strings_Join b off c xs sep C.w (fun j x hx => ?_) (hI b hb) (by omega) hc hle').mono ?_
 · obtain ⟨us, hr, hcell⟩ := hd j x hx
   cases hr.1
   have := hcell 0 _ rfl
   simpa [Ty.size] using this
 rintro e w' ⟨rfl, hbl⟩
 exact ⟨⟨_, rfl, fun C' _ _ => by rw [SV.den]; rfl⟩, hbl⟩
theorem q8F (xs : List ByteArray) (sep : ByteArray) (h : ∀ x ∈ xs, x.size ≤ 65) (hl : xs.length ≤ 16) (hs : sep.size ≤ 16) : PC Tryz.prog 266 [rS sep, .isl .str xs] (rS (joinS xs sep)) := by
 refine q0D rfl rfl ?_
 refine rQ fi266 ?_
 refine q0a (j1d xs sep h hl hs) ?_
 refine gQ ?_; trivial

theorem j4B : PC Tryz.prog 321 [rI 16] (rB true) := by
 refine q0D rfl rfl ?_
 refine rQ fi321 ?_
 decide
theorem j3X : PC Tryz.prog 341 [.raw (.int .u64 16)] (rI 4) := by
 refine q0D rfl rfl ?_
 refine rQ fi341 ?_
 generalize hx : Int.fdiv _ (2 ^ min 58 64) = x
 have h15 : x = 15 := by rw [← hx]; decide
 clear hx
 subst h15
 refine ⟨by decide, j2P (vs := tabList[1].2) (v := .int .u8 4) (List.getElem_mem (l := tabList) (n := 1) (by decide)) rfl ?_⟩
 refine gQ ?_
 rfl
theorem tz_c : PC Tryz.prog 322 [.raw (.int .u64 16)] (rI 4) := by
 refine q0D rfl rfl ?_
 refine rQ fi322 ?_
 refine q0a j3X ?_
 refine gQ ?_; trivial
def qH (n : Nat) : Nat → Nat
 | 0 => n
 | j + 1 => qH n j / 16
theorem j4i {n : Nat} (h : n < 65536) : ∀ j, qH n j < 65536 ∧ (1 ≤ j → qH n j < 4096) ∧ (2 ≤ j → qH n j < 256) ∧ (3 ≤ j → qH n j < 16)
 | 0 => ⟨h, by omega, by omega, by omega⟩
 | j + 1 => by
  obtain ⟨h1, h2, h3, h4⟩ := j4i h j
  simp only [qH]
  refine ⟨by omega, fun _ => by omega, fun _ => ?_, fun _ => ?_⟩
  · rcases Nat.eq_zero_or_pos j with rfl | hj
    · omega
    have := h2 hj; omega
  have := h3 (by omega); omega
def digsH : ByteArray := ⟨#[48, 49, 50, 51, 52, 53, 54, 55, 56, 57, 97, 98, 99, 100, 101, 102, 103, 104, 105, 106, 107, 108, 109, 110, 111, 112, 113, 114, 115, 116, 117, 118, 119, 120, 121, 122]⟩
def digH (k : Nat) : UInt8 := digsH.data.toList.getD k 0
def rowH (n : Nat) : Nat → List UInt8
 | 0 => List.replicate 65 0
 | j + 1 => (rowH n j).set (64 - j) (digH (qH n j % 16))
theorem z3i (n : Nat) : ∀ j, (rowH n j).length = 65
 | 0 => by simp [rowH]
 | j + 1 => by rw [rowH, List.length_set, z3i n j]
theorem and15 (q : Nat) (h : q < 65536) : IntKind.u64.wrap ((BitVec.ofInt 64 (q : Int) &&& BitVec.ofInt 64 15).toNat : Nat) = ((q % 16 : Nat) : Int) := by
 have e : (BitVec.ofInt 64 (q : Int) &&& BitVec.ofInt 64 15).toNat = q % 16 := by
  rw [BitVec.toNat_and]
  have a : (BitVec.ofInt 64 (q : Int)).toNat = q := by rw [BitVec.toNat_ofInt]; omega
  have b : (BitVec.ofInt 64 15).toNat = 15 := by decide
  rw [a, b]
  exact Nat.and_two_pow_sub_one_eq_mod q 4
 rw [e]
 simp [IntKind.wrap, IntKind.bits, IntKind.signed]
 omega
theorem j0F (n : Nat) (hn : n < 65536) : PCE Tryz.prog 303 [.raw (.slice none 0 0), .raw (.int .u64 n), rI 16, rB false, rB false] (fun s => ∃ str : ByteArray, str.size ≤ 65 ∧ s = .tup [.raw (.slice none 0 0), rS str]) := by
 refine q4v rfl (by rintro _ ⟨s, _, rfl⟩; rfl) ?_
 refine q1L fi303 (q0n mixed 3 _ ?_)
 with_reducible refine sxE ?_
 refine uQ 20 _ ?_
 with_reducible refine sxE ?_
 refine uQ 30 _ ?_
 with_reducible refine sxE ?_
 refine q0a j4B ?_
 refine uQ 30 _ ?_
 with_reducible refine sxE ?_
 refine q0a tz_c ?_
 have w4 : IntKind.u64.wrap 4 = 4 := by decide
 have w16 : IntKind.u64.wrap 16 = 16 := by decide
 have w15 : IntKind.u64.wrap (16 - 1) = 15 := by decide
 refine uQ 30 _ ?_
 simp (maxSteps := 3000000) only [w4, w16, w15, go_sem, ↓zA, ↓reduceIte, ↓reduceDIte] <;> try simp only [zB]
 refine q1c (ι := Nat) (fun j => [(1, .raw (.int .u64 (qH n j : Nat))), (13, rI (65 - (j : Int)))]) (fun j => [.row .u8 (rowH n j)]) (fun j => qH n j) (fun j => j ≤ 3) 0 (by decide) rfl ?_ ?_
 · with_reducible refine sxE ?_
   exact ⟨rfl, rfl⟩
 intro j hj
 have hq := j4i hn j
 have hw1 : IntKind.i64.wrap (65 - (j : Int) - 1) = 64 - (j : Int) := by rw [show (65 : Int) - j - 1 = 64 - j by omega]; exact wrapi (by omega)
 have hln := z3i n j
 have hsh : ((qH n j : Nat) : Int).fdiv (2 ^ min 4 64) = ((qH n (j + 1) : Nat) : Int) := by
  rw [show (2 : Int) ^ min 4 64 = ((16 : Nat) : Int) by decide, z7t]; rfl
 have e64 : ((64 : Int) - j).toNat = 64 - j := by omega
 refine uQ 30 _ ?_
 simp (maxSteps := 3000000) only [hw1, hsh, go_sem, ↓zA, ↓reduceIte, ↓reduceDIte] <;> try simp only [zB]
 refine ⟨fun hge => ?_, fun hlt => ?_⟩
 · generalize hX : IntKind.u64.wrap _ = X
   have hXv : X = ((qH n j % 16 : Nat) : Int) := by rw [← hX]; exact and15 _ hq.1
   clear hX
   subst hXv
   rw [e64, Nat.zero_add, UInt8.ofNat_toNat]
   refine ⟨by show qH n j % 16 < 36; omega, ⟨by omega, by omega⟩, ⟨by omega, rfl⟩, ?_⟩
   refine uQ 10 _ ?_
   with_reducible refine sxE ?_
   refine ⟨j + 1, by omega, by show qH n (j + 1) < qH n j; simp only [qH]; omega, rfl, ?_⟩
   with_reducible refine sxE ?_
   rw [show (64 : Int) - j = 65 - ((j + 1 : Nat) : Int) by omega]
 rw [e64, Nat.zero_add, UInt8.ofNat_toNat]
 refine ⟨⟨by omega, by show qH n j < 36; omega⟩, ⟨by omega, by omega⟩, ⟨by omega, rfl⟩, ?_⟩
 refine uQ 40 _ ?_
 with_reducible refine sxE ?_
 refine ⟨⟨by omega, by omega, by omega⟩, ⟨by rw [List.length_set, hln]; omega, by rw [List.length_set, hln]; omega⟩, _, ⟨_, ?_, rfl⟩, rfl⟩
 simp [strOf, ByteArray.size]
 omega
theorem z9s (n : Nat) (hn : n < 65536) : PCE Tryz.prog 288 [.raw (.int .u64 n), rI 16] (fun s => ∃ str : ByteArray, str.size ≤ 65 ∧ s = rS str) := by
 refine q4v rfl (by rintro _ ⟨s, _, rfl⟩; rfl) ?_
 refine rQ fi288 ?_
 refine q1V (j0F n hn) ?_
 rintro _ ⟨s, hs, rfl⟩
 refine gQ ?_
 exact ⟨_, ⟨_, hs, rfl⟩, rfl⟩
theorem z8u (n : Nat) (hn : n < 65536) : PCE Tryz.prog 271 [.raw (.int .u64 n), rI 16] (fun s => ∃ str : ByteArray, str.size ≤ 65 ∧ s = rS str) := by
 refine q4v rfl (by rintro _ ⟨s, _, rfl⟩; rfl) ?_
 refine rQ fi271 ?_
 refine q1V (z9s n hn) ?_
 rintro _ ⟨s, hs, rfl⟩
 refine gQ ?_
 exact ⟨_, ⟨_, hs, rfl⟩, rfl⟩
def StrE (k : Nat) (s : SV) : Prop := ∃ str : ByteArray, str.size ≤ k ∧ s = rS str
theorem q8c {k : Nat} : ∀ s, StrE k s → s.clean = true := by rintro _ ⟨s, _, rfl⟩; rfl
theorem j0P (g : List UInt8) (hg : g.length = 1) : PCE Tryz.prog 268 [.isl .u8 g] (StrE 65) := by
 refine q4v rfl q8c ?_
 refine rQ fi268 ?_
 refine ⟨by omega, ?_⟩
 generalize g.getD 0 Ty.u8.dflt = x
 have hx := UInt8.toNat_lt x
 rw [show IntKind.i64.wrap (x.toNat : Int) = ((x.toNat : Nat) : Int) from wrapi (by omega)]
 refine q0a (j3W _ (UInt8.toNat_lt _)) ?_
 refine gQ ?_
 exact ⟨_, ⟨_, Nat.le_trans (z4C _ (UInt8.toNat_lt _)) (by decide), rfl⟩, rfl⟩
theorem or8 (a b : UInt8) : ∃ n : Nat, n < 65536 ∧ IntKind.u64.wrap ((BitVec.ofInt 64 (IntKind.u64.wrap (IntKind.u64.wrap (a.toNat : Int) * 2 ^ min 8 64)) ||| BitVec.ofInt 64 (IntKind.u64.wrap (b.toNat : Int))).toNat : Nat) = ((n : Nat) : Int) := by
 have ha := UInt8.toNat_lt a
 have hb := UInt8.toNat_lt b
 have hw : ∀ x : Int, IntKind.u64.wrap x = x % 18446744073709551616 := fun x => by simp [IntKind.wrap, IntKind.bits, IntKind.signed]
 generalize a.toNat = x at *
 generalize b.toNat = y at *
 have e1 : IntKind.u64.wrap (IntKind.u64.wrap (x : Int) * 2 ^ min 8 64) = ((x * 256 : Nat) : Int) := by
  rw [show (2 : Int) ^ min 8 64 = 256 by decide, hw, hw]; omega
 have e2 : IntKind.u64.wrap (y : Int) = (y : Int) := by rw [hw]; omega
 have e3 : (BitVec.ofInt 64 ((x * 256 : Nat) : Int) ||| BitVec.ofInt 64 (y : Int)).toNat = x * 256 ||| y := by
  rw [BitVec.toNat_or]
  have a : (BitVec.ofInt 64 ((x * 256 : Nat) : Int)).toNat = x * 256 := by rw [BitVec.toNat_ofInt]; omega
  have b : (BitVec.ofInt 64 (y : Int)).toNat = y := by rw [BitVec.toNat_ofInt]; omega
  rw [a, b]
 have l1 : x * 256 ||| y < 2 ^ 16 := Nat.or_lt_two_pow (by omega) (by omega)
 refine ⟨x * 256 ||| y, l1, ?_⟩
 rw [e1, e2, e3, hw]
 generalize x * 256 ||| y = z at *
 omega
theorem j1e (g : List UInt8) (hg : g.length = 2) : PCE Tryz.prog 270 [.isl .u8 g] (StrE 65) := by
 refine q4v rfl q8c ?_
 obtain ⟨n, hn, hv⟩ := or8 (g.getD 0 Ty.u8.dflt) (g.getD 1 Ty.u8.dflt)
 have hc := z8u n hn
 rw [← hv] at hc
 refine rQ fi270 ?_
 refine ⟨by omega, by omega, ?_⟩
 refine z6V hc ?_
 rintro _ ⟨s, hs, rfl⟩
 refine gQ ?_
 exact ⟨_, ⟨_, hs, rfl⟩, rfl⟩
def ListE (n : Nat) (s : SV) : Prop := ∃ l : List ByteArray, l.length = n ∧ (∀ x ∈ l, x.size ≤ 65) ∧ s = .isl .str l
theorem z1r {n : Nat} : ∀ s, ListE n s → s.clean = true := by rintro _ ⟨s, _, _, rfl⟩; rfl
theorem z3n (b : List UInt8) (size f : Nat) (h1 : 1 ≤ size) (h16 : size ≤ 16) (hb : b.length ≤ 16) (hf : ∀ g : List UInt8, g.length = size → PCE Tryz.prog f [.isl .u8 g] (StrE 65)) :
 PCE Tryz.prog 267 [.isl .u8 b, rI size, .fn f [] []] (ListE (b.length / size)) := by
 refine z8U rfl z1r ?_
 refine rQ fi267 ?_
 refine q4P 7 .str rfl rfl ?_
 with_reducible refine sxE ?_
 refine q1c (ι := List UInt8 × List ByteArray × List SObj) (fun s => [(0, .isl .u8 s.1), (7, .bld s.2.2.length .str s.2.1.length)]) (fun s => s.2.2 ++ [.row .str s.2.1]) (fun s => s.1.length) (fun s => s.1.length ≤ b.length ∧ s.2.1.length + s.1.length / size = b.length / size ∧ ∀ x ∈ s.2.1, x.size ≤ 65) (b, [], []) ⟨Nat.le_refl _, by simp, by simp⟩ rfl ?_ ?_
 · with_reducible refine sxE ?_; trivial
 rintro ⟨r, acc, G⟩ ⟨g1, g2, g3⟩
 dsimp only at g1 g2 g3
 refine aQ ?_
 have hd : b.length / size ≤ b.length := Nat.div_le_self _ _
 have hacc : acc.length ≤ 16 := Nat.le_trans (Nat.le_trans (Nat.le_add_right _ _) (Nat.le_of_eq g2)) (Nat.le_trans hd hb)
 refine ⟨fun hlt => ⟨⟨by omega, Nat.le_refl _, hlt⟩, q1V (hf _ (List.length_take_of_le hlt)) ?_⟩, fun hge => ?_⟩
 · rintro _ ⟨s, hs, rfl⟩
   refine aQ ?_
   have hd2 : r.length / size = (r.length - size) / size + 1 := Nat.div_eq_sub_div h1 hlt
   refine ⟨by omega, ⟨Nat.le_trans hacc (by decide), Nat.le_trans (Nat.mul_le_mul_right 16 (Nat.succ_le_succ hacc)) (by decide)⟩, ⟨by omega, hlt, Nat.le_refl _⟩, (r.drop size, acc ++ [s], G ++ [.dead, .row .str [s]]), ⟨?_, ?_, fun x hx => ?_⟩, ?_, ?_, ?_⟩
   · dsimp only; rw [List.length_drop]; omega
   · dsimp only; rw [List.length_drop, List.length_append, List.length_singleton]; omega
   · rcases List.mem_append.1 hx with hx | hx
     · exact g3 x hx
     rw [List.mem_singleton.1 hx]; exact hs
   · dsimp only; rw [List.length_drop]; omega
   · simp
   simp (maxSteps := 3000000) only [List.length_append, List.take_length, List.append_assoc, getA, getA0, setA, setA0, List.length_append, Nat.add_assoc, go_sem, ↓zA, ↓reduceIte, ↓reduceDIte] <;> try simp only [zB]
 have hz : r.length / size = 0 := Nat.div_eq_of_lt (by omega)
 refine ⟨.isl .str acc, ⟨acc, by omega, g3, rfl⟩, ?_⟩
 simp (maxSteps := 3000000) only [SealK, SV.sealed, List.append_assoc, getA, getA0, setA, setA0, List.length_append, Nat.add_assoc, go_sem, ↓zA, ↓reduceIte, ↓reduceDIte] <;> try simp only [zB]
 exact ⟨⟨Nat.le_refl _, Nat.le_trans hacc (by decide)⟩, List.take_length⟩
def TxtE (v : Bool) (s : SV) : Prop := ∃ str : ByteArray, s = .tup [rS str, rB v]
theorem q4g {v : Bool} : ∀ s, TxtE v s → s.clean = true := by rintro _ ⟨s, rfl⟩; rfl
theorem z4E (b : List UInt8) : PCE Tryz.prog 250 [.isl .u8 b] (TxtE (decide ((b.length : Int) = 4))) := by
 refine q4v rfl q4g ?_
 by_cases h : (b.length : Int) = 4
 · rw [decide_eq_true h]
   have hg := z3n b 1 268 (by omega) (by omega) (by omega) j0P
   refine q1L fi250 (q0n mixed 600 _ ?_)
   simp (maxSteps := 3000000) only [ir250, h, go_sem, ↓zA, ↓reduceIte, ↓reduceDIte] <;> try simp only [zB]
   refine q1V hg ?_
   rintro _ ⟨l, hl, hx, rfl⟩
   refine gQ ?_
   refine q0a (q8F l _ hx (by omega) (by decide)) ?_
   refine gQ ?_
   exact ⟨_, ⟨_, rfl⟩, rfl⟩
 rw [decide_eq_false h]
 refine q1L fi250 (q0n mixed 600 _ ?_)
 simp (maxSteps := 3000000) only [ir250, h, go_sem, ↓zA, ↓reduceIte, ↓reduceDIte] <;> try simp only [zB]
 exact ⟨_, ⟨_, rfl⟩, rfl⟩
def visAt (l : List UInt8) (j : Nat) : Bool := decide (33 ≤ ((l.getD j Ty.u8.dflt).toNat : Int)) && decide (((l.getD j Ty.u8.dflt).toNat : Int) ≤ 126)
theorem j0I (l : List UInt8) : visA l = allN l.length (visAt l) := rfl
theorem z4w (b : List UInt8) : PCE Tryz.prog 251 [.isl .u8 b] (TxtE (decide (1 ≤ (b.length : Int)) && (decide ((b.length : Int) ≤ 16) && visA b))) := by
 refine q4v rfl q4g ?_
 rw [j0I]
 refine rQ fi251 ?_
 refine ⟨fun h1 => ⟨fun h2 => ?_, fun h2 => ?_⟩, fun h1 => ?_⟩
 · rw [decide_eq_false (show ¬ (b.length : Int) ≤ 16 by omega), Bool.false_and, Bool.and_false]
   exact ⟨_, ⟨_, rfl⟩, rfl⟩
 · rw [decide_eq_true (show (1 : Int) ≤ (b.length : Int) by omega), decide_eq_true (show (b.length : Int) ≤ 16 by omega), Bool.true_and, Bool.true_and]
   refine q0G (fun i => [(16, .raw (.int .i64 ((i : Nat) : Int)))]) (b.length) (fun j => (visAt b) j = true) (by first | decide | simp) (fun i => rfl) ?_ fun i hi hall => ?_
   · (with_reducible refine sxE ?_ <;> try exact True.intro)
     all_goals (try rfl)
   have hwr := wsx i (by omega)
   refine gQ ?_
   have bad : i < (b.length) → (visAt b) i = false → allN (b.length) (visAt b) = false := fun hlt hv => q0i hlt hv
   have fin : ¬ i < (b.length) → allN (b.length) (visAt b) = true := fun h => q0l fun j hj => hall j (by omega)
   try dsimp only at bad fin hall
   have hv : visAt b i = (decide (33 ≤ ((b.getD i Ty.u8.dflt).toNat : Int)) && decide (((b.getD i Ty.u8.dflt).toNat : Int) ≤ 126)) := rfl
   refine ⟨fun hlt => ⟨⟨by omega, hlt⟩, fun h33 => ⟨fun h126 => ?_, fun h126 => ⟨hlt, q0L hall ?_, ⟨[], rfl⟩, ?_⟩⟩, fun h33 => ?_⟩, fun hge => ?_⟩
   · rw [bad hlt (by rw [hv, decide_eq_false (Int.not_le.2 h126), Bool.and_false])]
     exact ⟨_, ⟨_, rfl⟩, rfl⟩
   · rw [hv, decide_eq_true (Int.not_lt.1 h33), decide_eq_true (Int.not_lt.1 h126)]; rfl
   · with_reducible refine sx1 hwr ?_; trivial
   · rw [bad hlt (by rw [hv, decide_eq_false (Int.not_le.2 h33), Bool.false_and])]
     exact ⟨_, ⟨_, rfl⟩, rfl⟩
   rw [fin hge]
   have hz : (strOf b).size = b.length := by simp [strOf, ByteArray.size]
   refine ⟨?_, _, ⟨_, rfl⟩, rfl⟩
   rw [hz]
   show 5 + b.length ≤ _
   omega
 rw [decide_eq_false (show ¬ (1 : Int) ≤ (b.length : Int) by omega), Bool.false_and]
 exact ⟨_, ⟨_, rfl⟩, rfl⟩
theorem z4s (b : List UInt8) : PCE Tryz.prog 252 [.isl .u8 b] (TxtE (decide ((b.length : Int) = 16))) := by
 refine q4v rfl q4g ?_
 by_cases h : (b.length : Int) = 16
 · rw [decide_eq_true h]
   have hg := z3n b 2 270 (by omega) (by omega) (by omega) j1e
   refine q1L fi252 (q0n mixed 600 _ ?_)
   simp (maxSteps := 3000000) only [ir252, h, go_sem, ↓zA, ↓reduceIte, ↓reduceDIte] <;> try simp only [zB]
   refine q1V hg ?_
   rintro _ ⟨l, hl, hx, rfl⟩
   have hl8 : l.length = 8 := by omega
   refine gQ ?_
   refine q1c (ι := Nat × Nat × Nat) (fun s => [(5, rI s.2.1), (6, rI s.2.2), (16, rI s.1)]) (fun _ => []) (fun s => 8 - s.1) (fun s => s.1 ≤ 8 ∧ s.2.1 + s.2.2 ≤ 8) (0, 0, 0) ⟨by decide, by decide⟩ rfl ?_ ?_
   · with_reducible refine sxE ?_; trivial
   rintro ⟨i, a, n⟩ ⟨g1, g2⟩
   dsimp only at g1 g2
   have hwi := wsx i (by omega)
   have hwa : IntKind.i64.wrap ((a : Int) + (n : Int)) = ((a + n : Nat) : Int) := wrapi (by omega)
   refine uQ 600 _ ?_
   with_reducible refine sx1 hwa ?_
   refine ⟨fun hlt => ?_, fun hge => ?_⟩
   · refine q1c (ι := Nat) (fun m => [(8, rI (m : Nat))]) (fun _ => []) (fun m => 8 - m) (fun m => i + m ≤ 8) 0 (by omega) rfl ?_ ?_
     · with_reducible refine sxE ?_; trivial
     intro m hm
     have hwm : IntKind.i64.wrap ((i : Int) + (m : Int)) = ((i + m : Nat) : Int) := wrapi (by omega)
     have hwn := wsx m (by omega)
     refine uQ 600 _ ?_
     simp (maxSteps := 3000000) only [hwm, hwn, hwi, go_sem, ↓zA, ↓reduceIte, ↓reduceDIte] <;> try simp only [zB]
     refine ⟨fun h1 => ⟨⟨by omega, h1⟩, fun _ => ?_, fun _ => ⟨fun h2 => ?_, fun h2 => ?_⟩⟩, fun h1 => ⟨fun h2 => ?_, fun h2 => ?_⟩⟩
     · refine ⟨m + 1, by show i + (m + 1) ≤ 8; omega, by show 8 - (m + 1) < 8 - m; omega, rfl, ?_⟩
       with_reducible refine sxE ?_; trivial
     · refine ⟨(i + 1, i, m), ⟨by show i + 1 ≤ 8; omega, by show i + m ≤ 8; omega⟩, by show 8 - (i + 1) < 8 - i; omega, rfl, ?_⟩
       with_reducible refine sxE ?_; trivial
     · refine ⟨(i + 1, a, n), ⟨by show i + 1 ≤ 8; omega, by show a + n ≤ 8; omega⟩, by show 8 - (i + 1) < 8 - i; omega, rfl, ?_⟩
       with_reducible refine sxE ?_; trivial
     · refine ⟨(i + 1, i, m), ⟨by show i + 1 ≤ 8; omega, by show i + m ≤ 8; omega⟩, by show 8 - (i + 1) < 8 - i; omega, rfl, ?_⟩
       with_reducible refine sxE ?_; trivial
     refine ⟨(i + 1, a, n), ⟨by show i + 1 ≤ 8; omega, by show a + n ≤ 8; omega⟩, by show 8 - (i + 1) < 8 - i; omega, rfl, ?_⟩
     with_reducible refine sxE ?_; trivial
   refine ⟨fun h2 => q0a (q8F l _ hx (by omega) (by decide)) ?_, fun h2 => ?_⟩
   · have hj := q5l l ⟨#[58]⟩ hx
     rw [hl8] at hj
     replace hj : (joinS l ⟨#[58]⟩).size ≤ 528 := hj
     generalize joinS l ⟨#[58]⟩ = J at *
     refine gQ ?_
     refine ⟨by show 1 + J.size ≤ _; omega, by show 1 + J.size + 1 ≤ _; omega, _, ⟨_, rfl⟩, rfl⟩
   have hx1 : ∀ x ∈ l.take a, x.size ≤ 65 := fun x h => hx x (List.mem_of_mem_take h)
   have hx2 : ∀ x ∈ l.drop (a + n), x.size ≤ 65 := fun x h => hx x (List.mem_of_mem_drop h)
   have l1 : (l.take a).length ≤ 16 := by rw [List.length_take]; omega
   have l2 : (l.drop (a + n)).length ≤ 16 := by rw [List.length_drop]; omega
   have c1 := q8F (l.take a) ⟨#[58]⟩ hx1 l1 (by decide)
   have c2 := q8F (l.drop (a + n)) ⟨#[58]⟩ hx2 l2 (by decide)
   have j1 := q5l (l.take a) ⟨#[58]⟩ hx1
   have j2 := q5l (l.drop (a + n)) ⟨#[58]⟩ hx2
   replace j1 : (joinS (l.take a) ⟨#[58]⟩).size ≤ 66 * (l.take a).length := j1
   replace j2 : (joinS (l.drop (a + n)) ⟨#[58]⟩).size ≤ 66 * (l.drop (a + n)).length := j2
   generalize joinS (l.take a) ⟨#[58]⟩ = J at *
   generalize joinS (l.drop (a + n)) ⟨#[58]⟩ = K at *
   have ht : List.take l.length l = l := List.take_length
   rw [ht]
   refine ⟨⟨by omega, by omega⟩, ⟨by omega, by omega, Nat.le_refl _⟩, q0b c1 ?_⟩
   refine gQ ?_
   refine ⟨by show 1 + J.size ≤ _; omega, by show 1 + J.size + 2 ≤ _; omega, q0b c2 ?_⟩
   refine gQ ?_
   refine ⟨by show 1 + J.size + 2 + K.size ≤ _; omega, by show 1 + J.size + 2 + K.size + 1 ≤ _; omega, _, ⟨_, rfl⟩, rfl⟩
 rw [decide_eq_false h]
 refine q1L fi252 (q0n mixed 600 _ ?_)
 simp (maxSteps := 3000000) only [ir252, h, go_sem, ↓zA, ↓reduceIte, ↓reduceDIte] <;> try simp only [zB]
 exact ⟨_, ⟨_, rfl⟩, rfl⟩
abbrev kindsA : SV := .imap (some .i64) [.int .i64 2, .int .i64 20, .int .i64 24] [fnV 250, fnV 251, fnV 252]
theorem q6p : PC Tryz.prog 218 [] kindsA := by
 refine q0D rfl rfl (z7e ?_)
 refine rQ fi218 ?_
 exact ⟨_, _, _, [], rfl, rfl⟩
theorem j1f (a : Pre) : PCE Tryz.prog 178 [.agg (PreT.cells a)] (TxtE (vAdr a)) := by
 obtain ⟨k, b⟩ := a
 change Int at k
 refine q4v rfl q4g ?_
 by_cases h4 : k = 2
 · subst h4
   have hv : vAdr (2, b) = decide ((b.length : Int) = 4) := by unfold vAdr; simp
   rw [hv]
   refine rQ fi178 ?_
   refine q0b q6p ?_
   refine gQ ?_
   refine q1V (z4E b) ?_
   rintro _ ⟨s, rfl⟩
   refine gQ ?_
   exact ⟨_, ⟨_, rfl⟩, rfl⟩
 by_cases h20 : k = 20
 · subst h20
   have hv : vAdr (20, b) = (decide (1 ≤ (b.length : Int)) && (decide ((b.length : Int) ≤ 16) && visA b)) := by unfold vAdr; simp
   rw [hv]
   refine rQ fi178 ?_
   refine q0b q6p ?_
   refine gQ ?_
   refine q1V (z4w b) ?_
   rintro _ ⟨s, rfl⟩
   refine gQ ?_
   exact ⟨_, ⟨_, rfl⟩, rfl⟩
 by_cases h24 : k = 24
 · subst h24
   have hv : vAdr (24, b) = decide ((b.length : Int) = 16) := by unfold vAdr; simp
   rw [hv]
   refine rQ fi178 ?_
   refine q0b q6p ?_
   refine gQ ?_
   refine q1V (z4s b) ?_
   rintro _ ⟨s, rfl⟩
   refine gQ ?_
   exact ⟨_, ⟨_, rfl⟩, rfl⟩
 have hv : vAdr (k, b) = false := by unfold vAdr; simp [h4, h20, h24]
 rw [hv]
 refine rQ fi178 ?_
 refine q0b q6p ?_
 refine uQ 600 _ ?_
 simp (maxSteps := 3000000) only [h4, h20, h24, go_sem, ↓zA, ↓reduceIte, ↓reduceDIte] <;> try simp only [zB]
 exact ⟨_, ⟨_, rfl⟩, rfl⟩
theorem z9f (a : Pre) : PC Tryz.prog 130 [.agg (PreT.cells a)] (rB (vAdr a)) := by
 have h := j1f a
 generalize vAdr a = v at *
 obtain ⟨k, b⟩ := a
 refine q0D rfl rfl ?_
 refine rQ fi130 ?_
 refine q1V h ?_
 rintro _ ⟨s, rfl⟩
 refine gQ ?_; trivial
theorem q9p (l : List Pre) : PC Tryz.prog 76 [.isl PreT l] (rB (vAdrs l)) := by
 refine q0D rfl rfl ?_
 refine rQ fi76 ?_
 refine ⟨fun h => ?_, fun h => ?_⟩
 · unfold vAdrs; rw [decide_eq_false (by omega)]; rfl
 have h16 : decide ((l.length : Int) ≤ 16) = true := decide_eq_true (by omega)
 refine q0G (fun i => [(10, .raw (.int .i64 ((i : Nat) : Int)))]) (l.length) (fun j => (adrAt l) j = true) (by first | decide | simp) (fun i => rfl) ?_ fun i hi hall => ?_
 · (with_reducible refine sxE ?_ <;> try exact True.intro)
   all_goals (try rfl)
 have hwr := wsx i (by omega)
 refine gQ ?_
 have bad : i < (l.length) → (adrAt l) i = false → allN (l.length) (adrAt l) = false := fun hlt hv => q0i hlt hv
 have fin : ¬ i < (l.length) → allN (l.length) (adrAt l) = true := fun h => q0l fun j hj => hall j (by omega)
 try dsimp only at bad fin hall
 refine ⟨fun hlt => ⟨⟨by omega, hlt⟩, q0a (z9f _) ?_⟩, fun hge => ?_⟩
 · have hd : adrAt l i = vAdr (l.getD i PreT.dflt) := rfl
   refine gQ ?_
   refine ⟨fun h1 => ?_, fun h1 => ⟨hlt, q0L hall (by rw [hd, h1]), ⟨[_], rfl⟩, ?_⟩⟩
   · unfold vAdrs; rw [bad hlt (by rw [hd, h1]), Bool.and_false]
   with_reducible refine sx1 hwr ?_; trivial
 unfold vAdrs; rw [h16, fin hge]; rfl
theorem z6E (l : List Pre) : PC Tryz.prog 183 [.isl PreT l] (.tup [.isl .u8 (adrS l), rI (if vAdrs l then 0 else 2)]) := by
 have hv := q9p l
 have hd : adrS l = if vAdrs l then dataS l else [] := rfl
 have hl := fun h : vAdrs l = true => (z1e h).1
 rw [hd]
 generalize vAdrs l = v at *
 refine q0e rfl rfl ?_
 refine rQ fi183 ?_
 refine q0a hv ?_
 refine gQ ?_
 refine ⟨fun h => ?_, fun h => ?_⟩
 · rw [h]; exact ⟨rfl, rfl⟩
 have hl := hl h
 rw [h]
 refine q1C 4 PreT (fun i => l.take i) (fun i => [(12, rI i)]) l.length (fun _ => True) rfl (by simp) (by simp) rfl (fun i => rfl) ?_ fun i hi _ => ?_
 · with_reducible refine sxE ?_; trivial
 have hwr := wsx i (by omega)
 have hln : (l.take i).length = i := List.length_take_of_le hi
 refine uQ 600 _ ?_
 with_reducible refine sx1 hln ?_
 refine ⟨fun hlt => ⟨⟨by omega, hlt⟩, ?_⟩, fun hge => ?_⟩
 · have hst := q0r (d := PreT.dflt) hlt
   refine ⟨⟨by omega, by omega⟩, q0R [_, _, _] [] hlt trivial (by rw [hst]; rfl) ?_⟩
   simp (maxSteps := 3000000) only [hwr, hst, List.length_append, hln, go_sem, ↓zA, ↓reduceIte, ↓reduceDIte] <;> try simp only [zB]
 obtain rfl : i = l.length := by omega
 refine q0u 0 ?_
 with_reducible refine sx1 hln ?_
 simp only [List.take_length]
 refine ⟨by omega, Nat.le_refl _, ?_⟩
 refine q0a (j0E l) ?_
 refine gQ ?_; trivial
theorem j1v (l : List Pre) : PC Tryz.prog 141 [.isl PreT l] (.isl .u8 (adrS l)) := by
 have h := z6E l
 generalize adrS l = w at *
 refine q0e rfl rfl ?_
 refine rQ fi141 ?_
 refine q0a h ?_
 refine gQ ?_; trivial
theorem j0H (l : List Tick) (ho : (Ty.slice TickT).ok l) : PC Tryz.prog 77 [.isl TickT l] (rB (vTks l)) := by
 refine q0D rfl rfl ?_
 refine rQ fi77 ?_
 refine ⟨fun h => ?_, fun h => ?_⟩
 · unfold vTks; rw [decide_eq_false (by omega)]; rfl
 have h16 : decide ((l.length : Int) ≤ 16) = true := decide_eq_true (by omega)
 refine q0G (fun i => [(10, .raw (.int .i64 ((i : Nat) : Int)))]) (l.length) (fun j => (tkAt l) j = true) (by first | decide | simp) (fun i => rfl) ?_ fun i hi hall => ?_
 · (with_reducible refine sxE ?_ <;> try exact True.intro)
   all_goals (try rfl)
 have hwr := wsx i (by omega)
 refine gQ ?_
 have bad : i < (l.length) → (tkAt l) i = false → allN (l.length) (tkAt l) = false := fun hlt hv => q0i hlt hv
 have fin : ¬ i < (l.length) → allN (l.length) (tkAt l) = true := fun h => q0l fun j hj => hall j (by omega)
 try dsimp only at bad fin hall
 refine ⟨fun hlt => ⟨⟨by omega, hlt⟩, q0a (q9c _ (ho.2 _ (q0K (d := TickT.dflt) hlt))) ?_⟩, fun hge => ?_⟩
 · have hd : tkAt l i = vTick (l.getD i TickT.dflt) := rfl
   refine gQ ?_
   refine ⟨fun h1 => ?_, fun h1 => ⟨hlt, q0L hall (by rw [hd, h1]), ⟨[_], rfl⟩, ?_⟩⟩
   · unfold vTks; rw [bad hlt (by rw [hd, h1]), Bool.and_false]
   with_reducible refine sx1 hwr ?_; trivial
 unfold vTks; rw [h16, fin hge]; rfl
theorem j0Q (l : List Tick) (g : Nat) (w : Tick → List UInt8) (hl : l.length ≤ 1048576) (hone : ∀ x ∈ l, PC Tryz.prog g [.agg (TickT.cells x)] (.isl .u8 (w x))) :
 PC Tryz.prog 92 [.isl TickT l, .fn g [] []] (.isl .u8 (elemS 48 (mapN (t := TickT) w l l.length))) := by
 refine q0e rfl rfl ?_
 refine rQ fi92 ?_
 refine ⟨by omega, ?_⟩
 refine q7f (H := []) 5 (.slice .u8) (mapN (t := TickT) w l) (fun i => [(10, .any), (13, rI i)]) l.length (fun _ => True) (by simp [mapN]) (by simp) rfl (fun i => rfl) ?_ fun i hi _ => ?_
 · with_reducible refine sxE ?_
   rfl
 have hwr := wsx i (by omega)
 have hln := q4s (t := TickT) (w := w) hi
 refine uQ 600 _ ?_
 with_reducible refine sx1 hln ?_
 refine ⟨fun hlt => ⟨⟨by omega, hlt⟩, q0a (hone _ (q0K (d := TickT.dflt) hlt)) ?_⟩, fun hge => ?_⟩
 · refine uQ 600 _ ?_
   with_reducible refine sx1 hln ?_
   have hst := q3j (t := TickT) (w := w) hlt
   refine ⟨⟨by omega, by omega⟩, q0R [_, _, _] [] hlt trivial (by rw [hst]; rfl) ?_⟩
   simp (maxSteps := 3000000) only [hwr, hst, List.length_append, hln, go_sem, ↓zA, ↓reduceIte, ↓reduceDIte] <;> try simp only [zB]
 obtain rfl : i = l.length := by omega
 refine q0u 0 ?_
 with_reducible refine sx1 hln ?_
 refine ⟨by omega, Nat.le_refl _, ?_⟩
 rw [List.take_of_length_le (by omega)]
 refine q0a (q1N _ (by omega)) ?_
 refine gQ ?_; trivial
theorem j4K (r : Req) (ho : ReqT.ok r) (hl : r.2.2.2.2.2.2.2.2.2.2.2.length ≤ 1048576) : PC Tryz.prog 91 [.iptr ReqT r 0] (.isl .u8 (tkS r.2.2.2.2.2.2.2.2.2.2.2)) := by
 obtain ⟨k, pre, opt, cl, sv, fr, ti, re, no, pf, ad, tk⟩ := r
 obtain ⟨_, _, _, _, _, _, _, _, _, _, _, o12⟩ := ho
 dsimp only at hl
 have h := j0Q tk 93 tickE hl fun x hx => z6q x (o12.2 x hx)
 refine q0e rfl rfl ?_
 refine rQ fi91 ?_
 refine q0a h ?_
 refine gQ ?_
 rfl
theorem reqC (r : Req) (ho : ReqT.ok r) (hopt : optOk r) (hl : r.2.2.2.2.2.2.2.2.2.2.2.length ≤ 1048576) : ReqC r (vAdrs r.2.2.2.2.2.2.2.2.2.2.1) (vTks r.2.2.2.2.2.2.2.2.2.2.2) (adrS r.2.2.2.2.2.2.2.2.2.2.1) (tkS r.2.2.2.2.2.2.2.2.2.2.2) where
 ok := ho
 opt := hopt
 va := q9p _
 vt := j0H _ ho.2.2.2.2.2.2.2.2.2.2.2
 wa := fun _ => j1v _
 wt := fun _ => j4K r ho hl
def EffA (f : FuncId) (args : List SV) (b : List UInt8) (n : Nat) : Except Nat (List Pre × Nat) → Prop
 | .ok (l, k) => PE Tryz.prog f args [rdr b n] (.ret (.tup [.isl PreT l, rI 0])) [rdr b (n + k)]
 | .error _ => PE Tryz.prog f args [rdr b n] (.ret (.tup [.isl PreT [], rI 6])) [rdr b n]
theorem j0Y (b : List UInt8) (n : Nat) (hn : n ≤ b.length) (hb : b.length ≤ 1099511627776) : EffA 212 [.ptr 0 0] b n (adrP (b.drop n)) := by
 have hc := q7g b n
 have hr := z3e b n hn hb
 unfold adrP
 cases hx : dataP (b.drop n) with
 | error e =>
  have hr' := q4c hr hx
  have he := z3k _ _ hx
  simp only [chkP]
  refine q0c (by simp) ?_
  refine rQ fi212 ?_
  refine eQ [0] (hc) ?_
  refine eQ [0] (hr') ?_
  exact ⟨fun _ => trivial, fun h => absurd h (by omega)⟩
 | ok x =>
  obtain ⟨l, q⟩ := x
  have hr' := q3W hr hx
  have hl16 : l.length ≤ 16 := (q3n (q4X q1K 16) _ l q (by rw [List.length_drop]; omega) hx).1
  have hv := q9p l
  simp only [chkP]
  by_cases hva : vAdrs l = true
  · rw [if_pos hva]
    rw [hva] at hv
    refine q0c (by simp) ?_
    refine rQ fi212 ?_
    refine eQ [0] (hc) ?_
    refine eQ [0] (hr') ?_
    refine q1C 7 PreT (fun i => l.take i) (fun i => [(23, rI i)]) l.length (fun _ => True) rfl (by simp) (by simp) rfl (fun i => rfl) ?_ fun i hi _ => ?_
    · with_reducible refine sxE ?_; trivial
    have hwr := wsx i (by omega)
    have hln : (l.take i).length = i := List.length_take_of_le hi
    by_cases hlt : i < l.length
    · have hst := q0r (d := PreT.dflt) hlt
      refine uQ 600 _ ?_
      with_reducible refine sx1 hln ?_
      refine ⟨fun _ => ⟨⟨by omega, hlt⟩, ⟨by omega, by omega⟩, q0R [_, _, _] [] hlt trivial (by rw [hst]; rfl) ?_⟩, fun h => absurd hlt h⟩
      simp (maxSteps := 3000000) only [hwr, hst, List.length_append, hln, go_sem, ↓zA, ↓reduceIte, ↓reduceDIte] <;> try simp only [zB]
    obtain rfl : i = l.length := by omega
    have hall : l.take l.length = l := List.take_length
    rw [hall]
    rw [hall] at hln
    refine q1b 2 rfl rfl (by omega) ?_ ?_ ?_
    · with_reducible refine sxE ?_; trivial
    · with_reducible refine sxE ?_
      exact Nat.le_refl _
    with_reducible refine sxE ?_
    rw [List.take_of_length_le (Nat.le_refl _)]
    refine gQ ?_
    refine ⟨fun h => absurd h hlt, fun _ => q0a hv ?_⟩
    refine gQ ?_; trivial
  rw [if_neg hva]
  rw [Bool.eq_false_iff.2 hva] at hv
  refine q0c (by simp) ?_
  refine rQ fi212 ?_
  refine eQ [0] (hc) ?_
  refine eQ [0] (hr') ?_
  refine q1C 7 PreT (fun i => l.take i) (fun i => [(23, rI i)]) l.length (fun _ => True) rfl (by simp) (by simp) rfl (fun i => rfl) ?_ fun i hi _ => ?_
  · with_reducible refine sxE ?_; trivial
  have hwr := wsx i (by omega)
  have hln : (l.take i).length = i := List.length_take_of_le hi
  by_cases hlt : i < l.length
  · have hst := q0r (d := PreT.dflt) hlt
    refine uQ 600 _ ?_
    with_reducible refine sx1 hln ?_
    refine ⟨fun _ => ⟨⟨by omega, hlt⟩, ⟨by omega, by omega⟩, q0R [_, _, _] [] hlt trivial (by rw [hst]; rfl) ?_⟩, fun h => absurd hlt h⟩
    simp (maxSteps := 3000000) only [hwr, hst, List.length_append, hln, go_sem, ↓zA, ↓reduceIte, ↓reduceDIte] <;> try simp only [zB]
  obtain rfl : i = l.length := by omega
  have hall : l.take l.length = l := List.take_length
  rw [hall]
  rw [hall] at hln
  refine q1b 2 rfl rfl (by omega) ?_ ?_ ?_
  · with_reducible refine sxE ?_; trivial
  · with_reducible refine sxE ?_
    exact Nat.le_refl _
  with_reducible refine sxE ?_
  rw [List.take_of_length_le (Nat.le_refl _)]
  refine gQ ?_
  refine ⟨fun h => absurd h hlt, fun _ => q0a hv ?_⟩
  refine gQ ?_; trivial
theorem z8V (v : List Pre) : PC Tryz.prog 211 [.isl PreT v, rI 0] (.isl PreT v) := by
 refine q0e rfl rfl ?_
 refine rQ fi211 ?_
 refine q0g (fun _ => ?_) fun h => absurd h (by decide)
 refine gQ ?_; trivial
theorem z1y (e : Nat) (he : e ≠ 0) : PE Tryz.prog 211 [.isl PreT [], rI e] [] (.pan wrongV) [] := by
 refine q0c (by simp) ?_
 refine rQ fi211 ?_
 refine q0g (fun h => absurd h (by simp; omega)) fun _ => ?_
 with_reducible refine sxE ?_; trivial
theorem j2i (b : List UInt8) (n : Nat) (hn : n ≤ b.length) (hb : b.length ≤ 1099511627776) (T : TypeId) :
 Eff Tryz.prog 210 [.agg [.ptr 0 0], .ptr 1 0] b n [.cells T [.raw (.slice none 0 0)]] (fun _ => .tup []) (fun l : List Pre => [.cells T [.isl PreT l]]) (adrP (b.drop n)) := by
 have hr := j0Y b n hn hb
 cases hx : adrP (b.drop n) with
 | error e =>
  rw [hx] at hr
  have hr' : PE Tryz.prog 212 [.ptr 0 0] [rdr b n] (.ret (.tup [.isl PreT [], rI 6])) [rdr b n] := hr
  refine q0c (by simp) ?_
  refine rQ fi210 ?_
  refine eQ [0] (hr') ?_
  refine effP [] (z1y 6 (by decide)) ?_; trivial
 | ok x =>
  obtain ⟨l, k⟩ := x
  rw [hx] at hr
  have hr' : PE Tryz.prog 212 [.ptr 0 0] [rdr b n] (.ret (.tup [.isl PreT l, rI 0])) [rdr b (n + k)] := hr
  refine q0c (by simp) ?_
  refine rQ fi210 ?_
  refine eQ [0] (hr') ?_
  refine q0a (z8V l) ?_
  refine gQ ?_; trivial
theorem z4J : FitsP adrP := fun r v n h => q1E r v n (q9u (q := vAdrs) (x := dataP r) h).1
theorem z8Q (b : List UInt8) (n : Nat) (hn : n ≤ b.length) (hb : b.length ≤ 1099511627776) (h : nextB 8 (b.drop n) = true) :
 Eff Tryz.prog 161 [.agg [.ptr 0 0], rI 8] b n [] (fun l : List Pre => .isl PreT l) (fun _ => []) (inP (tagB 8) adrP (b.drop n)) := by
 have hc : Cln [.raw (.slice none 0 0)] := q0d q0C
 have hg := fun T => j2i (takeC (b.drop n)) 0 (Nat.zero_le _) (q0J hb) T
 simp only [List.drop_zero] at hg
 have hm := fun T => q5g 210 8 (by decide) b n hn hb T _ hc adrP z4J (fun l : List Pre => [.isl PreT l]) (fun v => q0A q0C) (hg T) h
 cases hx : inP (tagB 8) adrP (b.drop n) with
 | error e =>
  have hm' := fun T => q0B (hm T) hx
  refine q0c (by simp) ?_
  refine rQ fi161 ?_
  refine effP [0, 2] (hm' _) ?_; trivial
 | ok x =>
  obtain ⟨v, k⟩ := x
  have hm' := fun T => q0x (hm T) hx
  refine q0c (by simp) ?_
  refine rQ fi161 ?_
  refine eQ [0, 2] (hm' _) ?_; trivial
end Go.Proofs.YtkbbkhmffmfliaaGreatDoor
