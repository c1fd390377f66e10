/- Contracts: copies in new memory, of what lies as it lay. -/
import Derived.Test.YtddmkgibghohkaaGreatDoorP17
set_option linter.unusedSimpArgs false
set_option linter.unusedVariables false
set_option linter.unusedSectionVars false
namespace Go.Proofs.YtddmkgibghohkaaGreatDoor
open Go Go.Sx Go.Proofs
set_option maxRecDepth 100000
set_option maxHeartbeats 4000000
set_option linter.unusedSimpArgs false

theorem clone_o (l : List ByteArray) (hl : l.length ≤ 8796093022208) : VC Tryz.prog 124 [.isl .str l] [] (RowK .str l) := by
 refine vc_weak ?_
 refine runE mixed fi124 ?_
 intro b hb
 refine ⟨fun h => rowK_nil (hb h), fun h => ⟨⟨by omega, by omega⟩, ?_⟩⟩
 exact rowK_row (h := 1) rfl (by omega)
theorem bclone_o (l : List UInt8) (hl : l.length ≤ 140737488355328) : VC Tryz.prog 194 [.isl .u8 l] [] (RowK .u8 l) := by
 refine vc_weak ?_
 refine runE mixed fi194 ?_
 intro b hb
 refine ⟨fun h => rowK_nil (hb h), fun h => ⟨⟨by omega, by omega⟩, ?_⟩⟩
 exact rowK_row (h := 1) rfl (by omega)
theorem cbytes_o (l : List UInt8) (hl : l.length ≤ 140737488355328) : VC Tryz.prog 52 [.isl .u8 l] [] (RowK .u8 l) := by
 refine vc_weak ?_
 refine runE mixed fi52 ?_
 refine ⟨⟨by omega, by omega⟩, ?_⟩
 exact rowK_row (h := 0) rfl (by omega)

variable {q : Nat → Prop} {w0 : World}
theorem rel_str {x : Ty.str.den} {vs : List Value} (h : Ty.str.rel q w0 x vs) : vs = [.string x] := h.1
theorem rel_int {k : IntKind} {x : (Ty.int k).den} {vs : List Value} (h : (Ty.int k).rel q w0 x vs) : vs = [.int k x] := h
theorem rel_sl {t : Ty} {xs : List t.den} {vs : List Value} (h : (Ty.slice t).rel q w0 xs vs) : ∃ A n c, vs = [.slice A n c] ∧ Sl q w0 t xs (.slice A n c) := by
 obtain ⟨A, n, c, rfl, _⟩ := id h; exact ⟨A, n, c, rfl, h⟩
theorem rel_pr {s t : Ty} {x : (Ty.prod s t).den} {vs : List Value} (h : (Ty.prod s t).rel q w0 x vs) : ∃ v1 v2, vs = v1 ++ v2 ∧ s.rel q w0 x.1 v1 ∧ t.rel q w0 x.2 v2 := h

theorem rel_prin {p : Prin} {vs : List Value} (h : PrinT.rel q w0 p vs) : ∃ A n c, vs = [.slice A n c, .string p.2] ∧ Sl q w0 .str p.1 (.slice A n c) := by
 obtain ⟨v1, v2, rfl, h1, h2⟩ := rel_pr h
 obtain ⟨A, n, c, rfl, h1⟩ := rel_sl h1
 obtain rfl := rel_str h2
 exact ⟨A, n, c, rfl, h1⟩
theorem rel_key {k : Key} {vs : List Value} (h : KeyT.rel q w0 k vs) : ∃ A n c, vs = [.int .i64 k.1, .int .i64 k.2.1, .slice A n c] ∧ Sl q w0 .u8 k.2.2 (.slice A n c) := by
 obtain ⟨v1, v2, rfl, h1, h2⟩ := rel_pr h
 obtain ⟨v3, v4, rfl, h3, h4⟩ := rel_pr h2
 obtain rfl := rel_int h1
 obtain rfl := rel_int h3
 obtain ⟨A, n, c, rfl, h4⟩ := rel_sl h4
 exact ⟨A, n, c, rfl, h4⟩
theorem rel_set {s : KSet} {vs : List Value} (h : SetT.rel q w0 s vs) : ∃ A n c, vs = [.int .i64 s.1, .slice A n c, .string s.2.2.1, .int .i64 s.2.2.2.1, .int .i64 s.2.2.2.2] ∧ Sl q w0 KeyT s.2.1 (.slice A n c) := by
 obtain ⟨v1, v2, rfl, h1, h2⟩ := rel_pr h
 obtain ⟨v3, v4, rfl, h3, h4⟩ := rel_pr h2
 obtain ⟨v5, v6, rfl, h5, h6⟩ := rel_pr h4
 obtain ⟨v7, v8, rfl, h7, h8⟩ := rel_pr h6
 obtain rfl := rel_int h1
 obtain ⟨A, n, c, rfl, h3⟩ := rel_sl h3
 obtain rfl := rel_str h5
 obtain rfl := rel_int h7
 obtain rfl := rel_int h8
 exact ⟨A, n, c, rfl, h3⟩

theorem ncopy_z (p : Prin) {vs : List Value} (hv : PrinT.rel q w0 p vs) (hl : p.1.length ≤ 8796093022208) : PCZ q w0 Tryz.prog 58 [.agg (rawL vs)] (.agg (PrinT.cells p)) := by
 letI : Ghost := frzG q w0
 obtain ⟨A, n, c, rfl, h1⟩ := rel_prin hv
 obtain ⟨p1, p2⟩ := p
 change p1.length ≤ _ at hl
 refine pcz_seal rfl rfl ?_
 refine runZ mixed fi58 ?_ <;> try with_reducible exact True.intro
 refine callZ_rowK rfl (clone_o _ hl) (lend_z h1 lend_nil) (fun h0 => ?_) ?_
 · obtain rfl : _ = [] := h0
   refine goE mixed ?_; trivial
 · refine goE mixed ?_
   exact ⟨⟨Nat.le_refl _, by omega⟩, List.take_of_length_le (Nat.le_refl _)⟩
theorem pcopy_z (k : Key) {vs : List Value} (hv : KeyT.rel q w0 k vs) (hl : k.2.2.length ≤ 140737488355328) : PCZ q w0 Tryz.prog 119 [.agg (rawL vs)] (.agg (KeyT.cells k)) := by
 letI : Ghost := frzG q w0
 obtain ⟨A, n, c, rfl, h1⟩ := rel_key hv
 obtain ⟨k1, k2, k3⟩ := k
 change k3.length ≤ _ at hl
 refine pcz_seal rfl rfl ?_
 refine runZ mixed fi119 ?_ <;> try with_reducible exact True.intro
 refine callZ_rowK rfl (bclone_o _ hl) (lend_z h1 lend_nil) (fun h0 => ?_) ?_
 · obtain rfl : _ = [] := h0
   refine goE mixed ?_; trivial
 · refine goE mixed ?_
   exact ⟨⟨Nat.le_refl _, by omega⟩, List.take_of_length_le (Nat.le_refl _)⟩
end Go.Proofs.YtddmkgibghohkaaGreatDoor
/- Contracts: copies in new memory, of what lies as it lay. -/
namespace Go.Proofs.YtddmkgibghohkaaGreatDoor
open Go Go.Sx Go.Proofs
set_option maxRecDepth 100000
set_option maxHeartbeats 4000000
set_option linter.unusedSimpArgs false

variable {q : Nat → Prop} {w0 : World}
theorem copies_key_z (l : List (KeyT).den) (f : Nat) {w : Value} (hw : Sl q w0 (KeyT) l w) (hl : l.length * 40 ≤ 140737488355328) (hok : ∀ x ∈ l, (KeyT).ok x) (hone : ∀ x ∈ l, ∀ vs, (KeyT).rel q w0 x vs → PCZ q w0 Tryz.prog f [.agg (rawL vs)] (.agg ((KeyT).cells x))) :
 PCZ q w0 Tryz.prog 118 [.raw w, .fn f [] []] (.isl (KeyT) l) := by
 letI : Ghost := frzG q w0
 obtain ⟨A, c, rfl, hA⟩ := hw.out
 refine pcz_seal rfl rfl ?_
 refine runZ mixed fi118 ?_ <;> try with_reducible exact True.intro
 refine si_accN 5 (KeyT) (fun i => l.take i) (fun i => [(10, rI i)]) l.length (fun _ => True) rfl (by simp) (by simp) rfl (fun i => rfl) ?_ fun i hi _ => ?_
 · with_reducible refine sxE ?_; trivial
 rcases hA with rfl | ⟨b, o, rfl, hat⟩
 · obtain rfl : i = 0 := by simpa using hi
   rcases A with _ | ⟨b, o, _ | _⟩
   all_goals
    refine run_sound mixed 600 _ ?_
    simp (maxSteps := 3000000) [go_sem, bothG]
 refine goE mixed ?_
 have hwr : IntKind.i64.wrap ((i : Int) + 1) = ((i + 1 : Nat) : Int) := wrap_succ (by omega)
 refine ⟨fun hlt => ⟨⟨by omega, hlt⟩, zldF (hat i (l.getD i (KeyT).dflt) (by rw [List.getD_eq_getElem?_getD, List.getElem?_eq_getElem hlt]; rfl)) fun vs hvs => ?_⟩, fun hge => ?_⟩
 · obtain ⟨A, n, c', rfl, h1⟩ := rel_key hvs
   refine goE mixed ?_
   refine callZ (hone _ (getD_mem hlt) _ hvs) ?_
   refine goE mixed ?_
   have hst : l.take (i + 1) = l.take i ++ [l.getD i (KeyT).dflt] := take_succ_getD hlt
   have hlen : (l.take i).length = i := by simp; omega
   refine ⟨ ⟨by omega, by omega⟩, acc_next [_, _, _] [] hlt trivial (by rw [hst]; rfl) ?_⟩
   with_reducible refine sx3 hwr hst ?_; trivial
 · obtain rfl : i = l.length := by omega
   simp; omega
theorem copies_prin_z (l : List (PrinT).den) (f : Nat) {w : Value} (hw : Sl q w0 (PrinT) l w) (hl : l.length * 40 ≤ 140737488355328) (hok : ∀ x ∈ l, (PrinT).ok x) (hone : ∀ x ∈ l, ∀ vs, (PrinT).rel q w0 x vs → PCZ q w0 Tryz.prog f [.agg (rawL vs)] (.agg ((PrinT).cells x))) :
 PCZ q w0 Tryz.prog 59 [.raw w, .fn f [] []] (.isl (PrinT) l) := by
 letI : Ghost := frzG q w0
 obtain ⟨A, c, rfl, hA⟩ := hw.out
 refine pcz_seal rfl rfl ?_
 refine runZ mixed fi59 ?_ <;> try with_reducible exact True.intro
 refine si_accN 5 (PrinT) (fun i => l.take i) (fun i => [(10, rI i)]) l.length (fun _ => True) rfl (by simp) (by simp) rfl (fun i => rfl) ?_ fun i hi _ => ?_
 · with_reducible refine sxE ?_; trivial
 rcases hA with rfl | ⟨b, o, rfl, hat⟩
 · obtain rfl : i = 0 := by simpa using hi
   rcases A with _ | ⟨b, o, _ | _⟩
   all_goals
    refine run_sound mixed 600 _ ?_
    simp (maxSteps := 3000000) [go_sem, bothG]
 refine goE mixed ?_
 have hwr : IntKind.i64.wrap ((i : Int) + 1) = ((i + 1 : Nat) : Int) := wrap_succ (by omega)
 refine ⟨fun hlt => ⟨⟨by omega, hlt⟩, zldF (hat i (l.getD i (PrinT).dflt) (by rw [List.getD_eq_getElem?_getD, List.getElem?_eq_getElem hlt]; rfl)) fun vs hvs => ?_⟩, fun hge => ?_⟩
 · obtain ⟨A, n, c', rfl, h1⟩ := rel_prin hvs
   refine goE mixed ?_
   refine callZ (hone _ (getD_mem hlt) _ hvs) ?_
   refine goE mixed ?_
   have hst : l.take (i + 1) = l.take i ++ [l.getD i (PrinT).dflt] := take_succ_getD hlt
   have hlen : (l.take i).length = i := by simp; omega
   refine ⟨(hok _ (getD_mem hlt)).2, ⟨by omega, by omega⟩, acc_next [_, _, _] [] hlt trivial (by rw [hst]; rfl) ?_⟩
   with_reducible refine sx3 hwr hst ?_; trivial
 · obtain rfl : i = l.length := by omega
   simp; omega
theorem copies_set_z (l : List (SetT).den) (f : Nat) {w : Value} (hw : Sl q w0 (SetT) l w) (hl : l.length * 64 ≤ 140737488355328) (hok : ∀ x ∈ l, (SetT).ok x) (hone : ∀ x ∈ l, ∀ vs, (SetT).rel q w0 x vs → PCZ q w0 Tryz.prog f [.agg (rawL vs)] (.agg ((SetT).cells x))) :
 PCZ q w0 Tryz.prog 60 [.raw w, .fn f [] []] (.isl (SetT) l) := by
 letI : Ghost := frzG q w0
 obtain ⟨A, c, rfl, hA⟩ := hw.out
 refine pcz_seal rfl rfl ?_
 refine runZ mixed fi60 ?_ <;> try with_reducible exact True.intro
 refine si_accN 5 (SetT) (fun i => l.take i) (fun i => [(10, rI i)]) l.length (fun _ => True) rfl (by simp) (by simp) rfl (fun i => rfl) ?_ fun i hi _ => ?_
 · with_reducible refine sxE ?_; trivial
 rcases hA with rfl | ⟨b, o, rfl, hat⟩
 · obtain rfl : i = 0 := by simpa using hi
   rcases A with _ | ⟨b, o, _ | _⟩
   all_goals
    refine run_sound mixed 600 _ ?_
    simp (maxSteps := 3000000) [go_sem, bothG]
 refine goE mixed ?_
 have hwr : IntKind.i64.wrap ((i : Int) + 1) = ((i + 1 : Nat) : Int) := wrap_succ (by omega)
 refine ⟨fun hlt => ⟨⟨by omega, hlt⟩, zldF (hat i (l.getD i (SetT).dflt) (by rw [List.getD_eq_getElem?_getD, List.getElem?_eq_getElem hlt]; rfl)) fun vs hvs => ?_⟩, fun hge => ?_⟩
 · obtain ⟨A, n, c', rfl, h1⟩ := rel_set hvs
   refine goE mixed ?_
   refine callZ (hone _ (getD_mem hlt) _ hvs) ?_
   refine goE mixed ?_
   have hst : l.take (i + 1) = l.take i ++ [l.getD i (SetT).dflt] := take_succ_getD hlt
   have hlen : (l.take i).length = i := by simp; omega
   refine ⟨(hok _ (getD_mem hlt)).2.2.1, ⟨by omega, by omega⟩, acc_next [_, _, _] [] hlt trivial (by rw [hst]; rfl) ?_⟩
   with_reducible refine sx3 hwr hst ?_; trivial
 · obtain rfl : i = l.length := by omega
   simp; omega
theorem cbytes_z (l : List UInt8) {v : Value} (hv : Sl q w0 .u8 l v) (hl : l.length ≤ 140737488355328) : PCZ q w0 Tryz.prog 52 [.raw v] (.isl .u8 l) := by
 exact pcz_lend rfl (cbytes_o l hl) (lend_z hv lend_nil) rfl (by omega)
theorem copies_bytes_z (l : List (List UInt8)) (f : Nat) {w : Value} (hw : Sl q w0 (.slice .u8) l w) (hl : l.length * 24 ≤ 140737488355328) (hone : ∀ x ∈ l, ∀ v, Sl q w0 .u8 x v → PCZ q w0 Tryz.prog f [.raw v] (.isl .u8 x)) :
 PCZ q w0 Tryz.prog 61 [.raw w, .fn f [] []] (.isl (.slice .u8) l) := by
 letI : Ghost := frzG q w0
 obtain ⟨A, c, rfl, hA⟩ := hw.out
 refine pcz_seal rfl rfl ?_
 refine runZ mixed fi61 ?_ <;> try with_reducible exact True.intro
 refine si_accN 5 (.slice .u8) (fun i => l.take i) (fun i => [(10, rI i)]) l.length (fun _ => True) rfl (by simp) (by simp) rfl (fun i => rfl) ?_ fun i hi _ => ?_
 · with_reducible refine sxE ?_; trivial
 rcases hA with rfl | ⟨b, o, rfl, hat⟩
 · obtain rfl : i = 0 := by simpa using hi
   rcases A with _ | ⟨b, o, _ | _⟩
   all_goals
    refine run_sound mixed 600 _ ?_
    simp (maxSteps := 3000000) [go_sem, bothG]
 refine goE mixed ?_
 have hwr : IntKind.i64.wrap ((i : Int) + 1) = ((i + 1 : Nat) : Int) := wrap_succ (by omega)
 refine ⟨fun hlt => ⟨⟨by omega, hlt⟩, zldF1 (hat i (l.getD i (Ty.slice .u8).dflt) (by rw [List.getD_eq_getElem?_getD, List.getElem?_eq_getElem hlt]; rfl)) rfl fun v hv => ?_⟩, fun hge => ?_⟩
 · obtain ⟨A, n, c', h0, h1⟩ := rel_sl hv
   cases h0
   refine goE mixed ?_
   refine callZ (hone _ (getD_mem (d := (Ty.slice .u8).dflt) hlt) _ h1) ?_
   refine goE mixed ?_
   have hst : l.take (i + 1) = l.take i ++ [l.getD i (Ty.slice .u8).dflt] := take_succ_getD hlt
   have hlen : (l.take i).length = i := by simp; omega
   refine ⟨⟨by omega, by omega⟩, acc_next [_, _] [] hlt trivial (by rw [hst]; rfl) ?_⟩
   with_reducible refine sx3 hwr hst ?_; trivial
 · obtain rfl : i = l.length := by omega
   simp; omega
theorem copySet_z (s : KSet) {vs : List Value} (hv : SetT.rel q w0 s vs) (ho : SetT.ok s) (hl : s.2.1.length * 40 ≤ 140737488355328) (hk : ∀ k ∈ s.2.1, k.2.2.length ≤ 140737488355328) : PCZ q w0 Tryz.prog 47 [.agg (rawL vs)] (.agg (SetT.cells s)) := by
 letI : Ghost := frzG q w0
 obtain ⟨A, n, c, rfl, h1⟩ := rel_set hv
 refine pcz_seal rfl rfl ?_
 refine runZ mixed fi47 ?_ <;> try with_reducible exact True.intro
 refine callZ (copies_key_z s.2.1 _ h1 hl ho.2.1.2 (fun x hx vs hvs => pcopy_z x hvs (hk x hx))) ?_
 refine goE mixed ?_; trivial
theorem copy_z (e : Ent) {vs : List Value} (hv : EntT.rel q w0 e vs) (ho : EntT.ok e) (hs : small47 e) : PCZ q w0 Tryz.prog 27 [.agg (rawL vs)] (.agg (EntT.cells e)) := by
 letI : Ghost := frzG q w0
 obtain ⟨e1, e2, e3, e4, e5, e6, e7, e8, e9, e10, e11, e12, e13, e14, e15, e16⟩ := e
 obtain ⟨h1, ⟨h2, h2'⟩, ⟨h5, h5'⟩, ⟨h14, h14'⟩, ⟨h15, h15'⟩, ⟨h16, h16'⟩⟩ := hs
 obtain ⟨v1, u1, rfl, r1, hv⟩ := rel_pr hv
 obtain ⟨v2, u2, rfl, r2, hv⟩ := rel_pr hv
 obtain ⟨v3, u3, rfl, r3, hv⟩ := rel_pr hv
 obtain ⟨v4, u4, rfl, r4, hv⟩ := rel_pr hv
 obtain ⟨v5, u5, rfl, r5, hv⟩ := rel_pr hv
 obtain ⟨v6, u6, rfl, r6, hv⟩ := rel_pr hv
 obtain ⟨v7, u7, rfl, r7, hv⟩ := rel_pr hv
 obtain ⟨v8, u8, rfl, r8, hv⟩ := rel_pr hv
 obtain ⟨v9, u9, rfl, r9, hv⟩ := rel_pr hv
 obtain ⟨v10, u10, rfl, r10, hv⟩ := rel_pr hv
 obtain ⟨v11, u11, rfl, r11, hv⟩ := rel_pr hv
 obtain ⟨v12, u12, rfl, r12, hv⟩ := rel_pr hv
 obtain ⟨v13, u13, rfl, r13, hv⟩ := rel_pr hv
 obtain ⟨v14, u14, rfl, r14, hv⟩ := rel_pr hv
 obtain ⟨v15, v16, rfl, r15, r16⟩ := rel_pr hv
 obtain ⟨A1, n1, c1, rfl, s1⟩ := rel_prin r1
 obtain ⟨A2, n2, c2, rfl, s2⟩ := rel_sl r2
 obtain rfl := rel_int r3
 obtain rfl := rel_int r4
 obtain ⟨A5, n5, c5, rfl, s5⟩ := rel_sl r5
 obtain rfl := rel_str r6
 obtain rfl := rel_int r7
 obtain rfl := rel_int r8
 obtain rfl := rel_int r9
 obtain rfl := rel_int r10
 obtain rfl := rel_int r11
 obtain rfl := rel_int r12
 obtain rfl := rel_int r13
 obtain ⟨A14, n14, c14, rfl, s14⟩ := rel_sl r14
 obtain ⟨A15, n15, c15, rfl, s15⟩ := rel_sl r15
 obtain ⟨A16, n16, c16, rfl, s16⟩ := rel_sl r16
 dsimp only at *
 refine pcz_seal rfl rfl ?_
 refine runZ mixed fi27 ?_ <;> try with_reducible exact True.intro
 refine callZ (ncopy_z e1 r1 (by omega)) ?_
 refine goE mixed ?_
 refine callZ (copies_prin_z e2 _ s2 (by omega) ho.2.1.2 (fun x hx vs hvs => ncopy_z x hvs (by have := h2' x hx; omega))) ?_
 refine goE mixed ?_
 refine callZ (copies_set_z e5 _ s5 (by omega) ho.2.2.2.2.1.2 (fun x hx vs hvs => copySet_z x hvs (ho.2.2.2.2.1.2 x hx) (by have := (h5' x hx).1; omega) (fun k hk => by have := (h5' x hx).2 k hk; omega))) ?_
 refine goE mixed ?_
 refine callZ (copies_prin_z e14 _ s14 (by omega) ho.2.2.2.2.2.2.2.2.2.2.2.2.2.1.2 (fun x hx vs hvs => ncopy_z x hvs (by have := h14' x hx; omega))) ?_
 refine goE mixed ?_
 refine callZ (copies_prin_z e15 _ s15 (by omega) ho.2.2.2.2.2.2.2.2.2.2.2.2.2.2.1.2 (fun x hx vs hvs => ncopy_z x hvs (by have := h15' x hx; omega))) ?_
 refine goE mixed ?_
 refine callZ (copies_bytes_z e16 _ s16 (by omega) (fun x hx v hv => cbytes_z x hv (by have := h16' x hx; omega))) ?_
 refine goE mixed ?_; trivial
end Go.Proofs.YtddmkgibghohkaaGreatDoor
/- The law's spoil: it writes in memory that nobody else holds. -/
namespace Go.Proofs.YtddmkgibghohkaaGreatDoor
open Go Go.Sx Go.Proofs
set_option maxRecDepth 100000
set_option maxHeartbeats 4000000
set_option linter.unusedSimpArgs false

variable {q : Nat → Prop} {w0 : World}
theorem spoil_s (l : List Prin) {v : Value} (hv : Sl q w0 PrinT l v) : PCS q w0 Tryz.prog 29 [.raw v] (.tup []) := by
 letI : Ghost := scrG q w0
 have hok : (Ty.slice PrinT).ok l := Ty.rel_ok _ _ _ hv
 obtain ⟨A, c, rfl, hA⟩ := hv.out
 rcases hA with rfl | ⟨b, o, rfl, hat⟩
 · refine pcs_of fun H K hk => ?_
   refine runS mixed fi29 ?_ <;> try with_reducible exact True.intro
   refine si_cnt 2 0 (fun _ => True) ?_ fun i hi _ => ?_
   · with_reducible refine sxE ?_; trivial
   obtain rfl : i = 0 := by omega
   rcases A with _ | ⟨b, o, _ | _⟩
   all_goals
    refine run_sound mixed 600 _ ?_
    simp (maxSteps := 3000000) [go_sem, bothG]
    exact hk
 refine pcs_of fun H K hk => ?_
 refine runS mixed fi29 ?_ <;> try with_reducible exact True.intro
 refine si_cnt 2 l.length (fun _ => True) ?_ fun i hi _ => ?_
 · with_reducible refine sxE ?_; trivial
 refine goE mixed ?_
 have hlen := hok.1
 have hwr : IntKind.i64.wrap ((i : Int) + 1) = ((i + 1 : Nat) : Int) := wrap_succ (by omega)
 refine ⟨fun hlt => ?_, fun hge => ?_⟩
 · have hi' : l[i]? = some (l.getD i PrinT.dflt) := by rw [List.getD_eq_getElem?_getD, List.getElem?_eq_getElem hlt]; rfl
   have hx := hat i _ hi'
   have hokp := hok.2 _ (getD_mem (d := PrinT.dflt) hlt)
   generalize l.getD i PrinT.dflt = x at *
   refine si_cnt 3 x.1.length (fun _ => True) ?_ fun j hj _ => ?_
   · with_reducible refine sxE ?_; trivial
   refine goE mixed ?_
   have hlen2 := hokp.1.1
   have hwr2 : IntKind.i64.wrap ((j : Int) + 1) = ((j + 1 : Nat) : Int) := wrap_succ (by omega)
   refine ⟨⟨by omega, hlt⟩, zld_sl (t := .str) (ys := x.1) hx.fst fun v hv' => ?_⟩
   obtain ⟨A', c', rfl, hA'⟩ := hv'.out
   refine goE mixed ?_
   refine ⟨fun hlt2 => ?_, fun hge2 => ?_⟩
   · refine ⟨⟨by omega, hlt⟩, zld_sl (t := .str) (ys := x.1) hx.fst fun v hv2 => ?_⟩
     obtain ⟨A2, c2, rfl, hA2⟩ := hv2.out
     rcases hA2 with h0 | ⟨b2, o2, rfl, hat2⟩
     · exfalso; rw [h0] at hlt2; simp at hlt2
     have hlt3 : j < x.1.length := by omega
     have hy := hat2 j _ (List.getElem?_eq_getElem hlt3)
     refine goE mixed ?_
     refine ⟨⟨by omega, hlt3⟩, zst_str hy.1 hy.str (by decide) ?_⟩
     refine goE mixed ?_
     refine ⟨j + 1, hlt3, by dsimp only; omega, rfl, ?_⟩
     with_reducible refine sx1 hwr2 ?_; trivial
   · refine ⟨⟨by omega, hlt⟩, zst_str hx.1 hx.snd.str (by decide) ?_⟩
     refine goE mixed ?_
     refine ⟨i + 1, hlt, by dsimp only; omega, rfl, ?_⟩
     with_reducible refine sx1 hwr ?_; trivial
 · exact hk
end Go.Proofs.YtddmkgibghohkaaGreatDoor
namespace Go.Sx
open Go

variable {P : Program} {AQ : Ex → List SV → List SObj → Prop} {k0 : Nat} {k : List It} {t : List SV} {H : List SObj}

@[reducible] def frzN (q : Nat → Prop) (w0 : World) (N : Nat) : Ghost where
 inv := fun E C H => E.C.w.heap.size ≤ N ∧ ZInv q w0 C H
 fin := fun _ _ _ => True
 toFin := fun _ => trivial
 next := fun {E _ _ _ _} hx h => ⟨h.1, (frzG q w0).next (E := E) hx h.2⟩
 same := fun {E _ _ _ _} hw e hi ho h => ⟨h.1, (frzG q w0).same (E := E) hw e hi ho h.2⟩

theorem letsOut_mono {Q Q' : Exit → Act → World → Prop} (hq : ∀ e a w, Q e a w → Q' e a w) (h : LetsOut Q) : LetsOut Q' := by
 obtain ⟨a, w, h⟩ := h
 exact ⟨a, w, hq _ _ _ h⟩
theorem oper_mono2 {F : Fence} {n : Nat} {o : Oper} {a : Act} {w : World} {K K' : Act → World → Prop} {Q Q' : Exit → Act → World → Prop} (h : ∀ a w, K a w → K' a w) (hq : ∀ e a w, Q e a w → Q' e a w)
 (hh : o.wpIn F n P a w K Q) : o.wpIn F n P a w K' Q' := by
 unfold Oper.wpIn at *
 refine ⟨hh.1, ?_⟩
 have hh := hh.2
 generalize (o.semAt F.round a.eval).run P w = r at *
 cases r with
 | ok x w' =>
  cases x <;> simp only [Oper.uponIn] at hh ⊢ <;>
   first
    | exact h _ _ hh
    | exact ⟨hh.1, CallsIn.mono hh.2 (fun e w'' he => by cases e <;> first | exact h _ _ he | exact hq _ _ _ he | exact letsOut_mono hq he)⟩
    | exact ⟨hh.1, RowsIn.mono hh.2 (fun _ _ he => h _ _ he)⟩
    | exact ⟨hh.1, RoundIn.mono hh.2 (fun e w'' he => by cases e <;> first | exact h _ _ he | exact hq _ _ _ he | exact letsOut_mono hq he)⟩
 | halt x w' => cases x <;> simp only [Oper.uponIn] at hh ⊢ <;> first | exact hq _ _ _ hh | exact hh
theorem ops_mono2 {F : Fence} {n : Nat} {all : Array Oper} {Q Q' : Exit → Act → World → Prop} (hq : ∀ e a w, Q e a w → Q' e a w) : ∀ (l : List Nat) (a : Act) (w : World), wpOpsIn F n P all Q l a w → wpOpsIn F n P all Q' l a w
 | [], a, w, h => hq _ _ _ h
 | i :: l, a, w, h => by
  unfold wpOpsIn at h ⊢
  split
  · rename_i ho; simp only [ho] at h; exact ops_mono2 hq l a w h
  · rename_i o ho
    simp only [ho] at h
    split
    · rename_i hw; rw [if_pos hw] at h; exact oper_mono2 (fun a w h => ops_mono2 hq l a w h) hq h
    · rename_i hw; rw [if_neg hw] at h; exact ⟨h.1, ops_mono2 hq l _ w h.2⟩

def noStop : List It → Bool
 | [] => true
 | .code _ :: k => noStop k
 | .ops _ _ :: k => noStop k
 | .blk _ :: k => noStop k
 | _ :: _ => false
theorem wpT_ghost {G G' : Ghost} {F : Fence} {n : Nat} {E : EnD} {Q Q' : Exit → Act → World → Prop} (hq : ∀ e a w, Q' e a w → Q e a w) : ∀ (k : List It), noStop k = true →
 (∀ a w, @wpT G' F n P E Q' k a w → @wpT G F n P E Q k a w) ∧ (∀ id a w, @exitT G' F n P E Q' id k a w → @exitT G F n P E Q id k a w)
 | [], _ => ⟨fun a w h => by simp only [wpT] at h ⊢; exact hq _ _ _ h, fun id a w h => by simp only [exitT] at h ⊢; exact hq _ _ _ h⟩
 | .code c :: k, hs => by
  obtain ⟨h1, h2⟩ := wpT_ghost (G := G) (G' := G') (F := F) (n := n) (E := E) hq k hs
  refine ⟨fun a w h => ?_, fun id a w h => by simp only [exitT] at h ⊢; exact h2 id a w h⟩
  simp only [wpT] at h ⊢
  refine wpIn_mono h fun e a w hh => ?_
  cases e with
  | normal => exact h1 a w hh
  | exit id => exact h2 id a w hh
  | _ => exact hq _ _ _ hh
 | .ops all l :: k, hs => by
  obtain ⟨h1, h2⟩ := wpT_ghost (G := G) (G' := G') (F := F) (n := n) (E := E) hq k hs
  refine ⟨fun a w h => ?_, fun id a w h => by simp only [exitT] at h ⊢; exact h2 id a w h⟩
  simp only [wpT] at h ⊢
  refine ops_mono2 (fun e a w hh => ?_) l a w h
  cases e with
  | normal => exact h1 a w hh
  | exit id => exact h2 id a w hh
  | _ => exact hq _ _ _ hh
 | .blk id' :: k, hs => by
  obtain ⟨h1, h2⟩ := wpT_ghost (G := G) (G' := G') (F := F) (n := n) (E := E) hq k hs
  refine ⟨fun a w h => by simp only [wpT] at h ⊢; exact h1 a w h, fun id a w h => ?_⟩
  simp only [exitT] at h ⊢
  split
  · rw [if_pos (by assumption)] at h; exact h1 a w h
  · rw [if_neg (by assumption)] at h; exact h2 id a w h
theorem conc_ghost {G G' : Ghost} {E : EnD} (hf : ∀ E C H, G'.fin E C H → G.fin E C H) (e : Exit) (a : Act) (w : World) (h : @conc G' E AQ e a w) : @conc G E AQ e a w := by
 cases e with
 | normal => obtain ⟨C, t, H, h1, h2, h3⟩ := h; exact ⟨C, t, H, h1, h2, ⟨h3.wd, h3.ext, ⟨h3.defs.1, hf _ _ _ h3.defs.2⟩, h3.tmps⟩⟩
 | ret => obtain ⟨C, t, H, h1, h2, h3⟩ := h; exact ⟨C, t, H, h1, h2, ⟨h3.wd, h3.ext, ⟨h3.defs.1, hf _ _ _ h3.defs.2⟩, h3.tmps⟩⟩
 | exit id => obtain ⟨C, t, H, h1, h2, h3⟩ := h; exact ⟨C, t, H, h1, h2, ⟨h3.wd, h3.ext, ⟨h3.defs.1, hf _ _ _ h3.defs.2⟩, h3.tmps⟩⟩
 | panic ch => obtain ⟨C, t, H, s, v, h1, h2, h3, h4, h5, h6, h7, h8⟩ := h; exact ⟨C, t, H, s, v, h1, h2, h3, h4, h5, h6, ⟨h7.1, hf _ _ _ h7.2⟩, h8⟩
 | goto l => exact h
 | outgrown => exact h
def unl (L : Array Bool) : Nat := L.toList.countP (fun b => !b)
theorem unl_set {L : Array Bool} {i : Nat} (h : L.getD i true = false) : unl (L.setIfInBounds i true) < unl L := by
 have hlt : i < L.toList.length := by
  rcases Nat.lt_or_ge i L.size with h1 | h1
  · simpa using h1
  · simp [Array.getElem?_eq_none h1] at h
 have hf : L.toList[i] = false := by
  have h2 : i < L.size := by simpa using hlt
  simpa [h2] using h
 unfold unl
 rw [Array.toList_setIfInBounds, List.countP_set (p := fun b => !b) hlt]
 have h1 : 0 < L.toList.countP (fun b => !b) := List.countP_pos_iff.2 ⟨_, List.getElem_mem hlt, by rw [hf]; rfl⟩
 simp only [hf, Bool.not_false, Bool.not_true, Bool.false_eq_true, if_true, if_false]
 omega
theorem wpAny_inv {F : Fence} {n : Nat} {all : Array Oper} {Q : Exit → Act → World → Prop} (Inv : Array Bool → Act → World → Prop) (hend : ∀ L a w, Inv L a w → Region.ready .any all L = [] → Q .normal a w)
 (hstep : ∀ L a w i, Inv L a w → i ∈ Region.ready .any all L → wpOpIn F n P all Q i (Inv (L.setIfInBounds i true)) a w) : ∀ (fuel : Nat) (L : Array Bool) (a : Act) (w : World), Inv L a w → unl L ≤ fuel → wpAnyIn F n P .any all Q fuel L a w
 | 0, L, a, w, hi, hf => by
  have : Region.ready .any all L = [] := by
   cases hr : Region.ready .any all L with
   | nil => rfl
   | cons i l =>
    have := unl_set (mem_ready.1 (by rw [hr]; exact List.mem_cons_self : i ∈ Region.ready .any all L)).1
    omega
  exact ⟨this, hend L a w hi this⟩
 | fuel + 1, L, a, w, hi, hf => by
  refine ⟨fun h => hend L a w hi h, fun i hr => ?_⟩
  have hu := unl_set (mem_ready.1 hr).1
  exact wpOpIn_mono (K := Inv (L.setIfInBounds i true)) (fun a w h => wpAny_inv Inv hend hstep fuel _ a w h (by omega)) (hstep L a w i hi hr)

theorem wp_eff {o : Oper} {a : Act} {w w' : World} {v : Value} {r : Option Nat} {n : Nat} {next : Act → World → Prop} {Q : Exit → Act → World → Prop} (hnd : ∀ c, o.op ≠ .defer c)
 (hrun : (execOp a.eval o).run P w = .ok (.value v) w' ∨ ((execOp a.eval o).run P w = .ok .skip w' ∧ v = undef)) (h : next (a.put o.dst v) w') : o.wpIn (Fw r) n P a w next Q := by
 refine ⟨fun f _ => fw_fn r f, ?_⟩
 rw [Oper.semAt_eq _ _ _ hnd]
 rcases hrun with hrun | ⟨hrun, rfl⟩ <;> rw [hrun] <;> exact h

theorem Ty.cells_rel {C : Cx} : ∀ (t : Ty) (x : t.den) (vs : List Value), t.ok x → SV.denL C (t.cells x) vs → t.rel C.I C.w x vs
 | .u8, _, _, _, h => by simp only [Ty.cells, SV.denL, SV.den] at h; obtain ⟨v, us, rfl, rfl, rfl⟩ := h; rfl
 | .int _, _, _, _, h => by simp only [Ty.cells, SV.denL, SV.den] at h; obtain ⟨v, us, rfl, rfl, rfl⟩ := h; rfl
 | .bool, _, _, _, h => by simp only [Ty.cells, SV.denL, SV.den] at h; obtain ⟨v, us, rfl, rfl, rfl⟩ := h; rfl
 | .str, _, _, ho, h => by simp only [Ty.cells, SV.denL, SV.den] at h; obtain ⟨v, us, rfl, rfl, rfl⟩ := h; exact ⟨rfl, ho⟩
 | .slice t, _, _, _, h => by simp only [Ty.cells, SV.denL, SV.den] at h; obtain ⟨v, us, rfl, h, rfl⟩ := h; exact h
 | .prod a b, x, vs, ho, h => by
  obtain ⟨v1, v2, rfl, h1, h2⟩ := denL_append.1 h
  exact ⟨v1, v2, rfl, a.cells_rel _ _ ho.1 h1, b.cells_rel _ _ ho.2 h2⟩
 | .unit, _, _, _, h => by simpa [Ty.cells, SV.denL, Ty.rel] using h

theorem calls_fresh {C : Cx} {f : FuncId} {ty : Ty} {x : ty.den} {ws : List Value} (hw : Wd C H) (ho : ty.ok x) (hr : ty.rel C.I C.w x ws) (hp : ∀ (q : Nat → Prop) (w0 : World) (vs : List Value), ty.rel q w0 x vs → PCZ q w0 P f [.agg (rawL vs)] (.agg (ty.cells x))) :
 Calls P f #[.agg ws.toArray] C.w fun e w' => ∃ (q : Nat → Prop) (vs : List Value), e = .returned (.agg vs.toArray) ∧ ty.rel q w' x vs ∧ (∀ b, q b → C.w.heap.size ≤ b ∧ b < w'.heap.size ∧ Unf w' b) ∧ Wd { C with w := w' } H ∧ Ext ⟨C, H⟩ { C with w := w' } H := by
 let C0 : Cx := { C with I := fun _ => False, n := 0 }
 have hw0 : Wd C0 [] := ⟨rfl, fun h o ho => by simp at ho, fun b ⟨h, o, ho, _⟩ => by simp at ho, fun h h' o o' b ho => by simp at ho, fun b hb => hb.elim⟩
 have hz : ZInv C.I C.w C0 [] := fun b hb => ⟨hw.imm b hb, fun h => h, fun ⟨h, o, ho, _⟩ => by simp at ho, rfl⟩
 have h1 := (hp C.I C.w ws hr).2 [] (fun o H' => o = .ret (.agg (ty.cells x)) ∧ H' = []) ⟨rfl, rfl⟩ C0 [.agg ws.toArray] hw0 hz (denL_cons.2 ⟨_, [], rfl, by rw [SV.den]; exact ⟨_, rfl, rawL_den _⟩, denL_nil.2 rfl⟩)
 refine h1.mono ?_
 rintro e w' ⟨o, H', C', ⟨rfl, rfl⟩, rfl, hw', hx, v, rfl, hd⟩
 rw [SV.den] at hd
 obtain ⟨vs, rfl, hd⟩ := hd
 have hold : ∀ b, b < C.w.heap.size → C'.w.heap[b]? = C.w.heap[b]? := fun b hb => hx.frame b hb (fun ⟨h, o, ho, _⟩ => by simp at ho)
 obtain ⟨g1, g2⟩ := wd_gr hw hx.size hold hx.os hx.tape hx.output
 refine ⟨C'.I, vs, rfl, ty.cells_rel _ _ ho hd, fun b hb => ?_, g1, g2⟩
 rcases hx.immNew b hb with h2 | ⟨h2 | ⟨h, o, ho, _⟩, h3⟩
 · exact h2.elim
 · exact ⟨h2, hw'.imm b hb, h3⟩
 · simp at ho
end Go.Sx
namespace Go.Sx
open Go

variable {P : Program} {AQ : Ex → List SV → List SObj → Prop} {k0 : Nat} {k : List It} {t : List SV} {H : List SObj}

structure C2P where
 f : FuncId
 p : Nat
 d0 : Nat
 d1 : Nat
 d2 : Nat
 d3 : Nat
 d4 : Nat
 d5 : Nat
 T : TypeId
 m : Nat
 zs : List Value
 ty : Ty
 x : ty.den

def needs (o : Oper) (j : Nat) : Prop := ∃ e ∈ o.after, Region.binds .any e = true ∧ e.on = j
structure IsC2 (P : Program) (all : Array Oper) (c : C2P) : Prop where
 size : all.size = 8
 top : ∀ (i : Nat) (o : Oper), all[i]? = some o → ∀ e ∈ o.after, e.on < i
 o0 : ∃ o, all[0]? = some o ∧ o.op = .load c.T (.tmp c.p) ∧ o.dst = some c.d0 ∧ o.guard = none
 o1 : ∃ o cl, all[1]? = some o ∧ o.op = .call cl ∧ cl.callee = .value (.func c.f) ∧ cl.args = #[.tmp c.d0] ∧ o.dst = some c.d1 ∧ o.guard = none ∧ needs o 0
 o2 : ∃ o, all[2]? = some o ∧ o.op = .load c.T (.tmp c.p) ∧ o.dst = some c.d2 ∧ o.guard = none
 o3 : ∃ o cl, all[3]? = some o ∧ o.op = .call cl ∧ cl.callee = .value (.func c.f) ∧ cl.args = #[.tmp c.d2] ∧ o.dst = some c.d3 ∧ o.guard = none ∧ needs o 2
 o4 : ∃ o, all[4]? = some o ∧ o.op = .alloc c.T ∧ o.dst = some c.d4 ∧ o.guard = none
 o5 : ∃ o, all[5]? = some o ∧ o.op = .alloc c.T ∧ o.dst = some c.d5 ∧ o.guard = none
 o6 : ∃ o, all[6]? = some o ∧ o.op = .store c.T (.tmp c.d4) (.tmp c.d1) ∧ o.dst = none ∧ o.guard = none ∧ needs o 4 ∧ needs o 1
 o7 : ∃ o, all[7]? = some o ∧ o.op = .store c.T (.tmp c.d5) (.tmp c.d3) ∧ o.dst = none ∧ o.guard = none ∧ needs o 5 ∧ needs o 3
 ag : aggOf P c.T = some (some c.m)
 zero : (P.info? c.T).bind (fun i => i.zero.map (·.cells.toList)) = some c.zs
 zlen : c.zs.length = c.m
 tsz : c.ty.size = c.m
 en : enters P c.f = true
 nd : [c.p, c.d0, c.d1, c.d2, c.d3, c.d4, c.d5].Nodup

def Far (E : EnD) (C : Cx) (H : List SObj) (b : Nat) : Prop := E.C.w.heap.size ≤ b ∧ b < C.w.heap.size ∧ ¬ C.I b ∧ ¬ OwnB C H b ∧ Unf C.w b
theorem Far.ext {E : EnD} {C C' : Cx} {b : Nat} (h : Far E C H b) (hx : Ext ⟨C, H⟩ C' H) : Far E C' H b ∧ C'.w.heap[b]? = C.w.heap[b]? := by
 obtain ⟨h0, h1, h2, h3, h4⟩ := h
 obtain ⟨g1, g2, g3, g4⟩ := ext_old hx h1 h2 h3
 exact ⟨⟨h0, g1, g2, g3, h4.keep g4⟩, g4⟩

def upd (β : Nat → Bool) (i : Nat) : Nat → Bool := fun j => if j = i then true else β j
structure R2 (c : C2P) (E : EnD) (tm : List SV) (H : List SObj) (β : Nat → Bool) (vs : List Value) (q : Nat → Prop) (b4 b5 : Nat) (C : Cx) (a : Act) : Prop where
 den : @Den noGhost E C tm H a
 f0 : β 0 = true → ∃ ws : List Value, a.tmps[c.d0]? = some (.agg ws.toArray) ∧ SV.denL C (c.ty.cells c.x) ws
 f1 : β 1 = true → a.tmps[c.d1]? = some (.agg vs.toArray) ∧ c.ty.rel q C.w c.x vs ∧ ∀ b, q b → Far E C H b
 f2 : β 2 = true → ∃ ws : List Value, a.tmps[c.d2]? = some (.agg ws.toArray) ∧ SV.denL C (c.ty.cells c.x) ws
 f3 : β 3 = true → ∃ ws : List Value, a.tmps[c.d3]? = some (.agg ws.toArray) ∧ SV.denL C (c.ty.cells c.x) ws
 f4 : β 4 = true → a.tmps[c.d4]? = some (.pointer (some ⟨b4, 0, none⟩)) ∧ Far E C H b4 ∧ (β 1 = true → ¬ q b4) ∧ C.w.heap[b4]? = some (.cells (if β 6 = true then vs else c.zs).toArray c.T (0, 0))
 f5 : β 5 = true → a.tmps[c.d5]? = some (.pointer (some ⟨b5, 0, none⟩)) ∧ Far E C H b5 ∧ (β 1 = true → ¬ q b5) ∧ (β 4 = true → b5 ≠ b4) ∧ ∃ us : List Value, C.w.heap[b5]? = some (.cells us.toArray c.T (0, 0)) ∧ us.length = c.m ∧ (β 7 = true → SV.denL C (c.ty.cells c.x) us)
 i6 : β 6 = true → β 4 = true ∧ β 1 = true
 i7 : β 7 = true → β 5 = true ∧ β 3 = true

variable {c : C2P} {E : EnD} {tm : List SV} {β : Nat → Bool} {vs : List Value} {q : Nat → Prop} {b4 b5 : Nat} {C C' : Cx} {a : Act}

theorem R2.ext (r : R2 c E tm H β vs q b4 b5 C a) (hw : Wd C' H) (hx : Ext ⟨C, H⟩ C' H) : R2 c E tm H β vs q b4 b5 C' a where
 den := ⟨hw, r.den.ext.trans hx, ⟨r.den.defs.1, trivial⟩, denL_evo hx.evo r.den.tmps⟩
 f0 := fun h => by obtain ⟨ws, h1, h2⟩ := r.f0 h; exact ⟨ws, h1, denL_evo hx.evo h2⟩
 f1 := fun h => by
  obtain ⟨h1, h2, h3⟩ := r.f1 h
  exact ⟨h1, Ty.rel_keep (fun b hb => ⟨hb, ((h3 b hb).ext hx).2⟩) _ _ _ h2, fun b hb => ((h3 b hb).ext hx).1⟩
 f2 := fun h => by obtain ⟨ws, h1, h2⟩ := r.f2 h; exact ⟨ws, h1, denL_evo hx.evo h2⟩
 f3 := fun h => by obtain ⟨ws, h1, h2⟩ := r.f3 h; exact ⟨ws, h1, denL_evo hx.evo h2⟩
 f4 := fun h => by
  obtain ⟨h1, h2, h3, h4⟩ := r.f4 h
  exact ⟨h1, (h2.ext hx).1, h3, (h2.ext hx).2.trans h4⟩
 f5 := fun h => by
  obtain ⟨h1, h2, h3, h4, us, h5, h6, h7⟩ := r.f5 h
  exact ⟨h1, (h2.ext hx).1, h3, h4, us, (h2.ext hx).2.trans h5, h6, fun h => denL_evo hx.evo (h7 h)⟩
 i6 := r.i6
 i7 := r.i7

theorem den_put {d : Nat} {v : Value} (h : @Den noGhost E C tm H a) (hd : tm[d]? = some .any) : @Den noGhost E C tm H (a.put (some d) v) := by
 refine ⟨h.wd, h.ext, ⟨h.defs.1, trivial⟩, ?_⟩
 simp only [Act.put, Array.toList_setIfInBounds]
 have h1 := denL_set (i := d) (s := .any) (v := v) h.tmps (by rw [SV.den]; trivial)
 have h2 : tm.set d .any = tm := by
  apply List.ext_getElem?
  intro i
  by_cases e : d = i
  · subst e; rw [List.getElem?_set_self (List.getElem?_eq_some_iff.1 hd).1, hd]
  · rw [List.getElem?_set_ne e]
 rwa [h2] at h1
theorem put_get {d : Nat} {v : Value} (h : @Den noGhost E C tm H a) (hd : tm[d]? = some .any) : (a.put (some d) v).tmps[d]? = some v := by
 have hlt : d < a.tmps.size := by
  have := denL_length h.tmps
  rw [Array.length_toList] at this
  rw [this]; exact (List.getElem?_eq_some_iff.1 hd).1
 simp [Act.put, hlt]
theorem put_ne {d e : Nat} {v : Value} (h : d ≠ e) : (a.put (some d) v).tmps[e]? = a.tmps[e]? := by
 simp only [Act.put]; exact Array.getElem?_setIfInBounds_ne h

theorem R2.put {i d : Nat} {v : Value} (r : R2 c E tm H β vs q b4 b5 C a) (hnd : [c.p, c.d0, c.d1, c.d2, c.d3, c.d4, c.d5].Nodup) (hi : β i = false) (hd : [c.d0, c.d1, c.d2, c.d3, c.d4, c.d5][i]? = some d) (ht : tm[d]? = some .any) : R2 c E tm H β vs q b4 b5 C (a.put (some d) v) := by
 have key : ∀ (j e : Nat), [c.d0, c.d1, c.d2, c.d3, c.d4, c.d5][j]? = some e → β j = true → (a.put (some d) v).tmps[e]? = a.tmps[e]? := fun j e he hj => put_ne fun h => by
  subst h
  have hnd' : [c.d0, c.d1, c.d2, c.d3, c.d4, c.d5].Nodup := (List.nodup_cons.1 hnd).2
  have h1 := (List.getElem?_eq_some_iff.1 hd).1
  have : i = j := (List.getElem?_inj h1 hnd').1 (hd.trans he.symm)
  subst this
  rw [hi] at hj; cases hj
 refine ⟨den_put r.den ht, fun h => ?_, fun h => ?_, fun h => ?_, fun h => ?_, fun h => ?_, fun h => ?_, r.i6, r.i7⟩
 · obtain ⟨ws, h1, h2⟩ := r.f0 h; exact ⟨ws, (key 0 _ rfl h).trans h1, h2⟩
 · obtain ⟨h1, h2⟩ := r.f1 h; exact ⟨(key 1 _ rfl h).trans h1, h2⟩
 · obtain ⟨ws, h1, h2⟩ := r.f2 h; exact ⟨ws, (key 2 _ rfl h).trans h1, h2⟩
 · obtain ⟨ws, h1, h2⟩ := r.f3 h; exact ⟨ws, (key 3 _ rfl h).trans h1, h2⟩
 · obtain ⟨h1, h2⟩ := r.f4 h; exact ⟨(key 4 _ rfl h).trans h1, h2⟩
 · obtain ⟨h1, h2⟩ := r.f5 h; exact ⟨(key 5 _ rfl h).trans h1, h2⟩

theorem eval_tmp {d : Nat} {v : Value} (h : a.tmps[d]? = some v) : a.eval (.tmp d) = v := by
 simp only [Act.eval]; rw [Array.getD_eq_getD_getElem?, h]; rfl

theorem c2_ld {o : Oper} {p h : Nat} {T' : TypeId} (hop : o.op = .load c.T (.tmp p)) (hag : aggOf P c.T = some (some c.m)) (hm : c.ty.size = c.m) (hd : @Den noGhost E C tm H a) (hp : tm[p]? = some (.ptr h 0)) (hH : H[h]? = some (.cells T' (c.ty.cells c.x))) :
 ∃ ws : List Value, (execOp a.eval o).run P C.w = .ok (.value (.agg ws.toArray)) C.w ∧ SV.denL C (c.ty.cells c.x) ws := by
 obtain ⟨v, hv, hs⟩ := denL_get hd.tmps hp
 rw [SV.den] at hs
 obtain ⟨_, b, hb, rfl⟩ := hs
 obtain ⟨b', us, hb', hcell, hden⟩ := hd.wd.obj h _ hH
 rw [hb] at hb'; cases hb'
 have hv' : a.eval (.tmp p) = .pointer (some ⟨b, 0, none⟩) := eval_tmp (by simpa using hv)
 have hl : (c.ty.cells c.x).length = c.m := by rw [Ty.cells_length, hm]
 obtain ⟨v, h1, h2⟩ := run_loadVar (P := P) hag (b := b) (base := 0) (off := 0) (s := .agg (c.ty.cells c.x)) hden (fun j u hj => by rw [Nat.zero_add, cell_of_cells hcell]; exact hj) (by
  simp only [pick, Nat.zero_add, hl, Nat.le_refl, if_true, List.drop_zero, Option.some.injEq, SV.agg.injEq]
  rw [← hl, List.take_length])
 rw [SV.den] at h2
 obtain ⟨ws, rfl, h2⟩ := h2
 rw [Nat.zero_add] at h1
 exact ⟨ws, by simp [execOp, hop, hv', Instr.loadAt, Instr.sureAddr, Result.andThen, h1], h2⟩

theorem c2_call {o : Oper} {cl : Call} {f : FuncId} {d : Nat} {v : Value} {w : World} {r : Option Nat} {n : Nat} {R : Ending → World → Prop} {next : Act → World → Prop} {Q : Exit → Act → World → Prop} (hop : o.op = .call cl) (hc : cl.callee = .value (.func f)) (ha : cl.args = #[.tmp d]) (hen : enters P f = true)
 (hv : a.tmps[d]? = some v) (hcall : Calls P f #[v] w R) (hR : ∀ e w', R e w' → ∃ u, e = .returned u ∧ next (a.put o.dst u) w') : o.wpIn (Fw r) n P a w next Q := by
 refine ⟨fun f _ => fw_fn r f, ?_⟩
 rw [Oper.semAt_eq _ _ _ (by rw [hop]; intro c hc; cases hc)]
 have he := eval_tmp hv
 have hrun : (execOp a.eval o).run P w = .ok (.enter f #[v]) w := by
  have hf : a.eval (.func f) = .func (.func f) #[] #[] := rfl
  simp [execOp, hop, resolve, hc, hf, ha, he, Deferred.ofValue, invoke, enters_run hen]
 rw [hrun]
 refine ⟨(fun hd => by cases hd), callsIn_fw (hcall.mono fun e w' h => ?_)⟩
 obtain ⟨u, rfl, hn⟩ := hR e w' h
 exact hn

theorem c2_alloc {o : Oper} {T : TypeId} {zs : List Value} (hop : o.op = .alloc T) (hz : (P.info? T).bind (fun i => i.zero.map (·.cells.toList)) = some zs) (w : World) :
 (execOp a.eval o).run P w = .ok (.value (.pointer (some ⟨w.heap.size, 0, none⟩))) (w.alloc (.cells zs.toArray T)) := by
 cases hi : P.info? T with
 | none => simp [hi] at hz
 | some i =>
  cases hz0 : i.zero with
  | none => simp [hi, hz0] at hz
  | some z =>
   simp [hi, hz0] at hz
   simp [execOp, hop, Instr.alloc, zeroValue, typeInfo, hi, hz0, Result.andThen, newVar, newRow, ← hz]

theorem far_alloc {T : TypeId} {zs : List Value} (hd : @Den noGhost E C tm H a) :
 Wd { C with w := C.w.alloc (.cells zs.toArray T) } H ∧ Ext ⟨C, H⟩ { C with w := C.w.alloc (.cells zs.toArray T) } H ∧ Far E { C with w := C.w.alloc (.cells zs.toArray T) } H C.w.heap.size ∧ (C.w.alloc (.cells zs.toArray T)).heap[C.w.heap.size]? = some (.cells zs.toArray T (0, 0)) := by
 have hsz : (C.w.alloc (.cells zs.toArray T)).heap.size = C.w.heap.size + 1 := Array.size_push _
 obtain ⟨g1, g2⟩ := wd_gr (w' := C.w.alloc (.cells zs.toArray T)) hd.wd (by rw [hsz]; exact Nat.le_succ _) (fun b hb => alloc_old _ _ hb) rfl rfl rfl
 have hnew : (C.w.alloc (.cells zs.toArray T)).heap[C.w.heap.size]? = some (.cells zs.toArray T (0, 0)) := alloc_new _ _
 refine ⟨g1, g2, ⟨hd.ext.size, by show _ < (C.w.alloc _).heap.size; rw [hsz]; omega, fun hi => absurd (hd.wd.imm _ hi) (Nat.lt_irrefl _), fun ho => absurd (hd.wd.own _ ho).2 (Nat.lt_irrefl _), fun c T fz hc => ?_⟩, hnew⟩
 simp only at hc
 rw [hnew] at hc; cases hc; simp

theorem far_write {b : Nat} {T : TypeId} {zs us : List Value} (hd : @Den noGhost E C tm H a) (hf : Far E C H b) (hcell : C.w.heap[b]? = some (.cells zs.toArray T (0, 0))) (hl : us.length = zs.length) :
 let w' := C.w.setCells b 0 us
 w'.heap[b]? = some (.cells us.toArray T (0, 0)) ∧ (∀ b', b' ≠ b → w'.heap[b']? = C.w.heap[b']?) ∧ @Den noGhost E { C with w := w' } tm H a ∧ Evo C { C with w := w' } ∧ Far E { C with w := w' } H b ∧ ∀ b', b' ≠ b → Far E C H b' → Far E { C with w := w' } H b' := by
 intro w'
 obtain ⟨h0, h1, h2, h3, h4⟩ := hf
 have hnew : w'.heap[b]? = some (.cells us.toArray T (0, 0)) := by
  have := setCells_heap us 0 C.w zs hcell (by omega)
  rw [this]
  congr 3
  unfold splice
  simp [hl]
 have hoth : ∀ b', b' ≠ b → w'.heap[b']? = C.w.heap[b']? := fun b' e => setCells_other e _ _ _
 have hsz : w'.heap.size = C.w.heap.size := setCells_size _ _ _
 have hfar : ∀ b', C.I b' ∨ OwnB C H b' → b' ≠ b := fun b' h e => by subst e; exact h.elim h2 h3
 have hbs : ∀ b' m, World.bsize C.w b' = some m → World.bsize w' b' = some m := fun b' m hm => by
  by_cases e : b' = b
  · subst e; unfold World.bsize at hm ⊢; rw [hnew]; rw [hcell] at hm; simp at hm ⊢; omega
  · unfold World.bsize at hm ⊢; rw [hoth b' e]; exact hm
 obtain ⟨k1, k2⟩ := wd_far hd.wd hsz (fun b' h => hoth b' (hfar b' h)) hbs
 have hx := hd.ext
 refine ⟨hnew, hoth, ⟨k1, ⟨hx.evo.trans k2, by show _ ≤ w'.heap.size; rw [hsz]; exact hx.size, (setCells_os _ _ _).trans hx.os, (setCells_tape _ _ _).trans hx.tape, (setCells_output _ _ _).trans hx.output,
  fun b' g1 g2 => (hoth b' (by omega)).trans (hx.frame b' g1 g2), fun b' hb' => orMap (hx.immNew b' hb') id fun ⟨x, y⟩ => ⟨x, y.keep (hoth b' (hfar b' (.inl hb')))⟩, hx.ownNew⟩, ⟨hd.defs.1, trivial⟩, denL_evo k2 hd.tmps⟩, k2, ⟨h0, by show _ < w'.heap.size; rw [hsz]; exact h1, h2, h3, fun c T fz hc => ?_⟩, fun b' e ⟨g0, g1, g2, g3, g4⟩ => ⟨g0, by show _ < w'.heap.size; rw [hsz]; exact g1, g2, g3, g4.keep (hoth b' e)⟩⟩
 simp only at hc
 rw [hnew] at hc; cases hc; simp

theorem c2_store {o : Oper} {T : TypeId} {d e b m : Nat} {zs us : List Value} {w : World} (hop : o.op = .store T (.tmp d) (.tmp e)) (hs : (P.info? T).map (·.size) = some m) (hp : a.tmps[d]? = some (.pointer (some ⟨b, 0, none⟩))) (hv : a.tmps[e]? = some (.agg us.toArray))
 (hcell : w.heap[b]? = some (.cells zs.toArray T (0, 0))) (hz : zs.length = m) (hl : us.length = m) (hone : ∀ v ∈ us, v.oneCell' = true) : (execOp a.eval o).run P w = .ok .skip (w.setCells b 0 us) := by
 have e1 := eval_tmp hp
 have e2 := eval_tmp hv
 have hrun : (storeCells ⟨b, 0, none⟩ us 0).run P w = .ok () (w.setCells b (0 + 0) us) := run_storeCells_cells b 0 _ 0 w
  (fun j hj => by rw [cell_of_cells hcell]; rw [List.getElem?_eq_getElem (by omega)]; rfl)
  (fun j hj => by simp [World.frozen?, hcell]) hone
 simp [execOp, hop, e1, e2, Instr.storeAt, Instr.sureAddr, Result.andThen, storeVar, run_sizeOf hs, Value.cells, hl, hrun]
end Go.Sx
namespace Go.Sx
open Go

variable {P : Program} {AQ : Ex → List SV → List SObj → Prop} {k0 : Nat} {k : List It} {t : List SV} {H : List SObj}
variable {c : C2P} {E : EnD} {tm : List SV} {β : Nat → Bool} {vs : List Value} {q : Nat → Prop} {b4 b5 : Nat} {C C' : Cx} {a : Act}

theorem upd_fun {L : Array Bool} {i : Nat} (h : i < L.size) : (fun j => (L.setIfInBounds i true).getD j false) = upd (fun j => L.getD j false) i := by
 funext j
 unfold upd
 by_cases e : j = i
 · subst e; simp [h]
 · rw [if_neg e]; exact getD_set_ne false (Ne.symm e)

def C2Inv (c : C2P) (E : EnD) (tm : List SV) (H : List SObj) (L : Array Bool) (a : Act) (w : World) : Prop :=
 ∃ (C : Cx) (vs : List Value) (q : Nat → Prop) (b4 b5 : Nat), C.w = w ∧ L.size = 8 ∧ R2 c E tm H (fun j => L.getD j false) vs q b4 b5 C a

theorem rel_cells_one {I : Nat → Prop} {w : World} (t : Ty) (x : t.den) (vs : List Value) (h : t.rel I w x vs) : ∀ v ∈ vs, v.oneCell' = true := rel_one t x vs h

theorem c2_step {all : Array Oper} {n : Nat} {ro : Option Nat} {Q : Exit → Act → World → Prop} {h : Nat} {T' : TypeId} (h2 : IsC2 P all c) (hok : c.ty.ok c.x) (hp : tm[c.p]? = some (.ptr h 0)) (hH : H[h]? = some (.cells T' (c.ty.cells c.x)))
 (hany : ∀ d ∈ [c.d0, c.d1, c.d2, c.d3, c.d4, c.d5], tm[d]? = some .any)
 (hfresh : ∀ (q : Nat → Prop) (w0 : World) (vs : List Value), c.ty.rel q w0 c.x vs → PCZ q w0 P c.f [.agg (rawL vs)] (.agg (c.ty.cells c.x))) (hpc : PC P c.f [.agg (c.ty.cells c.x)] (.agg (c.ty.cells c.x)))
 (L : Array Bool) (a : Act) (w : World) (i : Nat) (hi : C2Inv c E tm H L a w) (hr : i ∈ Region.ready .any all L) : wpOpIn (Fw ro) n P all Q i (C2Inv c E tm H (L.setIfInBounds i true)) a w := by
 obtain ⟨C, vs, q, b4, b5, rfl, hL, R⟩ := hi
 obtain ⟨hun, oi, hoi, hall⟩ := mem_ready.1 hr
 have hi8 : i < 8 := by rw [← h2.size]; exact (Array.getElem?_eq_some_iff.1 hoi).1
 have hbi : L.getD i false = false := by
  have : i < L.size := by omega
  simpa [this] using hun
 have hneed : ∀ j, needs oi j → L.getD j false = true := fun j ⟨e, he, hb, hj⟩ => hj ▸ hall e he hb
 have hopn : ∀ (o : Oper), all[i]? = some o → o.guard = none → o.wpIn (Fw ro) n P a C.w (C2Inv c E tm H (L.setIfInBounds i true)) Q → wpOpIn (Fw ro) n P all Q i (C2Inv c E tm H (L.setIfInBounds i true)) a C.w := fun o ho hg hw => by
  unfold wpOpIn
  simp only [ho]
  rw [if_pos (by unfold Region.wanted; rw [hg])]
  exact hw
 have hfin : ∀ (a' : Act) (C' : Cx) (vs' : List Value) (q' : Nat → Prop) (b4' b5' : Nat), R2 c E tm H (upd (fun j => L.getD j false) i) vs' q' b4' b5' C' a' → C2Inv c E tm H (L.setIfInBounds i true) a' C'.w := fun a' C' vs' q' b4' b5' R' =>
  ⟨C', vs', q', b4', b5', rfl, by simpa using hL, by rw [upd_fun (by omega)]; exact R'⟩
 have hsz : (P.info? c.T).map (·.size) = some c.m := aggOf_size h2.ag
 have hnd := h2.nd
 match i, hi8 with
 | 0, _ =>
  obtain ⟨o, ho, hop, hdst, hg⟩ := h2.o0
  refine hopn o ho hg ?_
  obtain ⟨ws, hrun, hws⟩ := c2_ld (P := P) hop h2.ag h2.tsz R.den hp hH
  refine wp_eff (by rw [hop]; intro c hc; cases hc) (.inl hrun) ?_
  rw [hdst]
  have R1 := R.put (v := .agg ws.toArray) (i := 0) hnd hbi rfl (hany _ (by simp))
  refine hfin _ C vs q b4 b5 ⟨R1.den, fun _ => ⟨ws, put_get R.den (hany _ (by simp)), hws⟩, R1.f1, R1.f2, R1.f3, R1.f4, R1.f5, R1.i6, R1.i7⟩
 | 2, _ =>
  obtain ⟨o, ho, hop, hdst, hg⟩ := h2.o2
  refine hopn o ho hg ?_
  obtain ⟨ws, hrun, hws⟩ := c2_ld (P := P) hop h2.ag h2.tsz R.den hp hH
  refine wp_eff (by rw [hop]; intro c hc; cases hc) (.inl hrun) ?_
  rw [hdst]
  have R1 := R.put (v := .agg ws.toArray) (i := 2) hnd hbi rfl (hany _ (by simp))
  refine hfin _ C vs q b4 b5 ⟨R1.den, R1.f0, R1.f1, fun _ => ⟨ws, put_get R.den (hany _ (by simp)), hws⟩, R1.f3, R1.f4, R1.f5, R1.i6, R1.i7⟩
 | 1, _ =>
  obtain ⟨o, cl, ho, hop, hc, ha, hdst, hg, hn0⟩ := h2.o1
  refine hopn o ho hg ?_
  rw [ho] at hoi; cases hoi
  obtain ⟨ws, hv, hws⟩ := R.f0 (hneed 0 hn0)
  refine c2_call hop hc ha h2.en hv (calls_fresh R.den.wd hok (c.ty.cells_rel _ _ hok hws) hfresh) ?_
  rintro e w' ⟨q', vs', rfl, hrel, hq, g1, g2⟩
  refine ⟨_, rfl, ?_⟩
  rw [hdst]
  have R1 := (R.ext g1 g2).put (v := .agg vs'.toArray) (i := 1) hnd hbi rfl (hany _ (by simp))
  have hb6 : L.getD 6 false = false := by
   cases h6 : L.getD 6 false with
   | false => rfl
   | true => have := (R.i6 h6).2; rw [hbi] at this; cases this
  refine hfin _ { C with w := w' } vs' q' b4 b5 ⟨R1.den, R1.f0, fun _ => ⟨put_get (R.ext g1 g2).den (hany _ (by simp)), hrel, fun b hb => ?_⟩, R1.f2, R1.f3, fun h4 => ?_, fun h5 => ?_, fun h6 => ?_, R1.i7⟩
  · obtain ⟨q1, q2, q3⟩ := hq b hb
    exact ⟨Nat.le_trans R.den.ext.size q1, q2, fun hI => absurd (R.den.wd.imm b hI) (Nat.not_lt.2 q1), fun hO => absurd (R.den.wd.own b hO).2 (Nat.not_lt.2 q1), q3⟩
  · obtain ⟨k1, k2, _, k4⟩ := R1.f4 h4
    have hlt := (R.f4 h4).2.1.2.1
    refine ⟨k1, k2, fun _ hq4 => absurd (hq _ hq4).1 (Nat.not_le.2 hlt), ?_⟩
    have e6 : upd (fun j => L.getD j false) 1 6 = false := hb6
    rw [e6]
    simp only [hb6] at k4
    exact k4
  · obtain ⟨k1, k2, _, k4, k5⟩ := R1.f5 h5
    have hlt := (R.f5 h5).2.1.2.1
    exact ⟨k1, k2, fun _ hq4 => absurd (hq _ hq4).1 (Nat.not_le.2 hlt), k4, k5⟩
  · have h6' : L.getD 6 false = true := h6
    rw [hb6] at h6'; cases h6'
 | 3, _ =>
  obtain ⟨o, cl, ho, hop, hc, ha, hdst, hg, hn0⟩ := h2.o3
  refine hopn o ho hg ?_
  rw [ho] at hoi; cases hoi
  obtain ⟨ws, hv, hws⟩ := R.f2 (hneed 2 hn0)
  refine c2_call hop hc ha h2.en hv (hpc.2 H (fun o H' => o = .ret (.agg (c.ty.cells c.x)) ∧ H' = H) ⟨rfl, rfl⟩ C [.agg ws.toArray] R.den.wd (denL_cons.2 ⟨_, [], rfl, by rw [SV.den]; exact ⟨_, rfl, hws⟩, denL_nil.2 rfl⟩)) ?_
  rintro e w' ⟨o', H', C', ⟨rfl, rfl⟩, rfl, g1, g2, v, rfl, hd⟩
  rw [SV.den] at hd
  obtain ⟨us, rfl, hus⟩ := hd
  refine ⟨_, rfl, ?_⟩
  rw [hdst]
  have R1 := (R.ext g1 g2).put (v := .agg us.toArray) (i := 3) hnd hbi rfl (hany _ (by simp))
  exact hfin _ C' vs q b4 b5 ⟨R1.den, R1.f0, R1.f1, R1.f2, fun _ => ⟨us, put_get (R.ext g1 g2).den (hany _ (by simp)), hus⟩, R1.f4, R1.f5, R1.i6, fun h7 => by
   have h7' : L.getD 7 false = true := h7
   exact ⟨(R1.i7 h7').1, rfl⟩⟩
 | 4, _ =>
  obtain ⟨o, ho, hop, hdst, hg⟩ := h2.o4
  refine hopn o ho hg ?_
  refine wp_eff (by rw [hop]; intro c hc; cases hc) (.inl (c2_alloc hop h2.zero C.w)) ?_
  rw [hdst]
  obtain ⟨g1, g2, g3, g4⟩ := far_alloc (T := c.T) (zs := c.zs) R.den
  have R1 := (R.ext g1 g2).put (v := .pointer (some ⟨C.w.heap.size, 0, none⟩)) (i := 4) hnd hbi rfl (hany _ (by simp))
  have hb6 : L.getD 6 false = false := by
   cases h6 : L.getD 6 false with
   | false => rfl
   | true => have := (R.i6 h6).1; rw [hbi] at this; cases this
  refine hfin _ { C with w := C.w.alloc (.cells c.zs.toArray c.T) } vs q C.w.heap.size b5 ⟨R1.den, R1.f0, R1.f1, R1.f2, R1.f3, fun _ => ⟨put_get (R.ext g1 g2).den (hany _ (by simp)), g3, fun h1 hq4 => ?_, ?_⟩, fun h5 => ?_, fun h6 => ?_, R1.i7⟩
  · have := ((R.f1 h1).2.2 _ hq4).2.1; omega
  · have e6 : upd (fun j => L.getD j false) 4 6 = false := hb6
    rw [e6]; exact g4
  · obtain ⟨k1, k2, k3, _, k5⟩ := R1.f5 h5
    have hlt := (R.f5 h5).2.1.2.1
    exact ⟨k1, k2, k3, fun _ e => by omega, k5⟩
  · have h6' : L.getD 6 false = true := h6
    rw [hb6] at h6'; cases h6'
 | 5, _ =>
  obtain ⟨o, ho, hop, hdst, hg⟩ := h2.o5
  refine hopn o ho hg ?_
  refine wp_eff (by rw [hop]; intro c hc; cases hc) (.inl (c2_alloc hop h2.zero C.w)) ?_
  rw [hdst]
  obtain ⟨g1, g2, g3, g4⟩ := far_alloc (T := c.T) (zs := c.zs) R.den
  have R1 := (R.ext g1 g2).put (v := .pointer (some ⟨C.w.heap.size, 0, none⟩)) (i := 5) hnd hbi rfl (hany _ (by simp))
  have hb7 : L.getD 7 false = false := by
   cases h7 : L.getD 7 false with
   | false => rfl
   | true => have := (R.i7 h7).1; rw [hbi] at this; cases this
  refine hfin _ { C with w := C.w.alloc (.cells c.zs.toArray c.T) } vs q b4 C.w.heap.size ⟨R1.den, R1.f0, R1.f1, R1.f2, R1.f3, R1.f4, fun _ => ⟨put_get (R.ext g1 g2).den (hany _ (by simp)), g3, fun h1 hq4 => ?_, fun h4 e => ?_, c.zs, g4, h2.zlen, fun h7 => ?_⟩, R1.i6, fun h7 => ?_⟩
  · have := ((R.f1 h1).2.2 _ hq4).2.1; omega
  · have := (R.f4 h4).2.1.2.1; omega
  · have h7' : L.getD 7 false = true := h7
    rw [hb7] at h7'; cases h7'
  · have h7' : L.getD 7 false = true := h7
    rw [hb7] at h7'; cases h7'
 | 6, _ =>
  obtain ⟨o, ho, hop, hdst, hg, hn4, hn1⟩ := h2.o6
  refine hopn o ho hg ?_
  rw [ho] at hoi; cases hoi
  obtain ⟨k1, k2, k3, k4⟩ := R.f4 (hneed 4 hn4)
  obtain ⟨l1, l2, l3⟩ := R.f1 (hneed 1 hn1)
  simp only [hbi, Bool.false_eq_true, if_false] at k4
  have hvl : vs.length = c.m := by rw [c.ty.rel_size _ _ l2, h2.tsz]
  have hrun := c2_store (P := P) hop hsz k1 l1 k4 h2.zlen hvl (rel_cells_one _ _ _ l2)
  refine wp_eff (by rw [hop]; intro c hc; cases hc) (.inr ⟨hrun, rfl⟩) ?_
  rw [hdst]
  obtain ⟨m1, m2, m3, m4, m5, m6⟩ := far_write R.den k2 k4 (hvl.trans h2.zlen.symm)
  have hq4 : ∀ b, q b → b ≠ b4 := fun b hb e => k3 (hneed 1 hn1) (e ▸ hb)
  refine hfin _ { C with w := C.w.setCells b4 0 vs } vs q b4 b5 ⟨m3, fun h => ?_, fun h => ?_, fun h => ?_, fun h => ?_, fun h => ⟨k1, m5, k3, m1⟩, fun h5 => ?_, fun _ => ⟨hneed 4 hn4, hneed 1 hn1⟩, R.i7⟩
  · obtain ⟨ws, h1, h2⟩ := R.f0 h; exact ⟨ws, h1, denL_evo m4 h2⟩
  · exact ⟨l1, Ty.rel_keep (fun b hb => ⟨hb, m2 b (hq4 b hb)⟩) _ _ _ l2, fun b hb => m6 b (hq4 b hb) (l3 b hb)⟩
  · obtain ⟨ws, h1, h2⟩ := R.f2 h; exact ⟨ws, h1, denL_evo m4 h2⟩
  · obtain ⟨ws, h1, h2⟩ := R.f3 h; exact ⟨ws, h1, denL_evo m4 h2⟩
  · obtain ⟨n1, n2, n3, n4, us, n5, n6, n7⟩ := R.f5 h5
    have hne := n4 (hneed 4 hn4)
    exact ⟨n1, m6 b5 hne n2, n3, n4, us, (m2 b5 hne).trans n5, n6, fun h7 => denL_evo m4 (n7 h7)⟩
 | 7, _ =>
  obtain ⟨o, ho, hop, hdst, hg, hn5, hn3⟩ := h2.o7
  refine hopn o ho hg ?_
  rw [ho] at hoi; cases hoi
  obtain ⟨n1, n2, n3, n4, us, n5, n6, n7⟩ := R.f5 (hneed 5 hn5)
  obtain ⟨ws, l1, l2⟩ := R.f3 (hneed 3 hn3)
  have hwl : ws.length = c.m := by rw [denL_length l2, Ty.cells_length, h2.tsz]
  have hrun := c2_store (P := P) hop hsz n1 l1 n5 n6 hwl (rel_cells_one _ _ _ (c.ty.cells_rel _ _ hok l2))
  refine wp_eff (by rw [hop]; intro c hc; cases hc) (.inr ⟨hrun, rfl⟩) ?_
  rw [hdst]
  obtain ⟨m1, m2, m3, m4, m5, m6⟩ := far_write R.den n2 n5 (hwl.trans n6.symm)
  refine hfin _ { C with w := C.w.setCells b5 0 ws } vs q b4 b5 ⟨m3, fun h => ?_, fun h => ?_, fun h => ?_, fun h => ?_, fun h4 => ?_, fun _ => ⟨n1, m5, n3, n4, ws, m1, hwl, fun _ => denL_evo m4 l2⟩, R.i6, fun _ => ⟨hneed 5 hn5, hneed 3 hn3⟩⟩
  · obtain ⟨ws, h1, h2⟩ := R.f0 h; exact ⟨ws, h1, denL_evo m4 h2⟩
  · obtain ⟨p1, p2, p3⟩ := R.f1 h
    have hq5 : ∀ b, q b → b ≠ b5 := fun b hb e => n3 h (e ▸ hb)
    exact ⟨p1, Ty.rel_keep (fun b hb => ⟨hb, m2 b (hq5 b hb)⟩) _ _ _ p2, fun b hb => m6 b (hq5 b hb) (p3 b hb)⟩
  · obtain ⟨ws, h1, h2⟩ := R.f2 h; exact ⟨ws, h1, denL_evo m4 h2⟩
  · obtain ⟨ws, h1, h2⟩ := R.f3 h; exact ⟨ws, h1, denL_evo m4 h2⟩
  · obtain ⟨p1, p2, p3, p4⟩ := R.f4 h4
    have hne := (n4 h4).symm
    exact ⟨p1, m6 b4 hne p2, p3, (m2 b4 hne).trans p4⟩
end Go.Sx
