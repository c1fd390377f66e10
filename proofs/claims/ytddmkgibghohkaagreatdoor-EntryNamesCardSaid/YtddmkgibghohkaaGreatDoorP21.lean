/- The law's spoil: it writes in memory that nobody else holds. -/
import Derived.Test.YtddmkgibghohkaaGreatDoorP18
import Derived.Test.YtddmkgibghohkaaGreatDoorP20
import Derived.Test.YtddmkgibghohkaaGreatDoorP14
import Derived.Test.YtddmkgibghohkaaGreatDoorP17
set_option linter.unusedSimpArgs false
set_option linter.unusedVariables false
set_option linter.unusedSectionVars false
namespace Go.Proofs.YtddmkgibghohkaaGreatDoor
open Go Go.Sx Go.Proofs
set_option maxRecDepth 100000
set_option maxHeartbeats 4000000
set_option linter.unusedSimpArgs false

variable {q : Nat → Prop} {w0 : World}
theorem spoil_s (l : List Prin) {v : Value} (hv : Sl q w0 PrinT l v) : PCS q w0 Tryz.prog 29 [.raw v] (.tup []) := by
 letI : Ghost := scrG q w0
 have hok : (Ty.slice PrinT).ok l := Ty.rel_ok _ _ _ hv
 obtain ⟨A, c, rfl, hA⟩ := hv.out
 rcases hA with rfl | ⟨b, o, rfl, hat⟩
 · refine pcs_of fun H K hk => ?_
   refine runS mixed fi29 ?_ <;> try with_reducible exact True.intro
   refine si_cnt 2 0 (fun _ => True) ?_ fun i hi _ => ?_
   · with_reducible refine sxE ?_; trivial
   obtain rfl : i = 0 := by omega
   rcases A with _ | ⟨b, o, _ | _⟩
   all_goals
    refine run_sound mixed 600 _ ?_
    simp (maxSteps := 3000000) [go_sem, bothG]
    exact hk
 refine pcs_of fun H K hk => ?_
 refine runS mixed fi29 ?_ <;> try with_reducible exact True.intro
 refine si_cnt 2 l.length (fun _ => True) ?_ fun i hi _ => ?_
 · with_reducible refine sxE ?_; trivial
 refine goE mixed ?_
 have hlen := hok.1
 have hwr : IntKind.i64.wrap ((i : Int) + 1) = ((i + 1 : Nat) : Int) := wrap_succ (by omega)
 refine ⟨fun hlt => ?_, fun hge => ?_⟩
 · have hi' : l[i]? = some (l.getD i PrinT.dflt) := by rw [List.getD_eq_getElem?_getD, List.getElem?_eq_getElem hlt]; rfl
   have hx := hat i _ hi'
   have hokp := hok.2 _ (getD_mem (d := PrinT.dflt) hlt)
   generalize l.getD i PrinT.dflt = x at *
   refine si_cnt 3 x.1.length (fun _ => True) ?_ fun j hj _ => ?_
   · with_reducible refine sxE ?_; trivial
   refine goE mixed ?_
   have hlen2 := hokp.1.1
   have hwr2 : IntKind.i64.wrap ((j : Int) + 1) = ((j + 1 : Nat) : Int) := wrap_succ (by omega)
   refine ⟨⟨by omega, hlt⟩, zld_sl (t := .str) (ys := x.1) hx.fst fun v hv' => ?_⟩
   obtain ⟨A', c', rfl, hA'⟩ := hv'.out
   refine goE mixed ?_
   refine ⟨fun hlt2 => ?_, fun hge2 => ?_⟩
   · refine ⟨⟨by omega, hlt⟩, zld_sl (t := .str) (ys := x.1) hx.fst fun v hv2 => ?_⟩
     obtain ⟨A2, c2, rfl, hA2⟩ := hv2.out
     rcases hA2 with h0 | ⟨b2, o2, rfl, hat2⟩
     · exfalso; rw [h0] at hlt2; simp at hlt2
     have hlt3 : j < x.1.length := by omega
     have hy := hat2 j _ (List.getElem?_eq_getElem hlt3)
     refine goE mixed ?_
     refine ⟨⟨by omega, hlt3⟩, zst_str hy.1 hy.str (by decide) ?_⟩
     refine goE mixed ?_
     refine ⟨j + 1, hlt3, by dsimp only; omega, rfl, ?_⟩
     with_reducible refine sx1 hwr2 ?_; trivial
   · refine ⟨⟨by omega, hlt⟩, zst_str hx.1 hx.snd.str (by decide) ?_⟩
     refine goE mixed ?_
     refine ⟨i + 1, hlt, by dsimp only; omega, rfl, ?_⟩
     with_reducible refine sx1 hwr ?_; trivial
 · exact hk
end Go.Proofs.YtddmkgibghohkaaGreatDoor
/- The law on copies: its compact form, and its region of two copies. -/
namespace Go.Proofs.YtddmkgibghohkaaGreatDoor
open Go Go.Sx Go.Proofs
set_option maxRecDepth 100000
set_option maxHeartbeats 4000000

def irx6 (r : Array Oper) : XI := ⟨152, [.tmp 4], [(.reg [o1 2 (.box 31 (.tmp 0)), o1 3 (.box 31 (.tmp 1)), o1 4 (.mov (.const (.bool false)))]), (.reg [o1 12 (.ld (some 17) (.tmp 2)), o1 13 (.call (.func 10) [(.tmp 12)]), o1 14 (.un .not (.tmp 13)), mv 15 14, oF 16 (.ld (some 17) (.tmp 3)) 15, oF 17 (.call (.func 10) [(.tmp 16)]) 15, oF 18 (.un .not (.tmp 17)) 15, o1 19 (.pick (.tmp 15) (.const (.bool true)) (.tmp 18))]), (.cond (.tmp 19) (.seq (.reg [o1 20 (.call (.func 12) []), mv 4 20]) .ret) .skip), (.drw [(true, o1 21 (.ld (some 17) (.tmp 2))), (true, o1 22 (.ld (some 17) (.tmp 3))), (true, o1 24 (.ld (some 17) (.tmp 2))), (true, o1 25 (.ld (some 17) (.tmp 3))), (false, o1 23 (.call (.func 31) [(.tmp 21), (.tmp 22)])), (false, o1 26 (.call (.func 17) [(.tmp 24), (.tmp 25)])), (true, o1 27 (.bin .neq 3 (.tmp 23) (.tmp 26)))]), (.cond (.tmp 27) (.seq (.reg [o1 4 (.mov (.const (.bool false)))]) .ret) .skip)], r, [(.reg [o1 32 (.ld (some 17) (.tmp 5)), o1 33 (.ld (some 17) (.tmp 2)), o1 34 (.call (.func 17) [(.tmp 32), (.tmp 33)]), o1 35 (.un .not (.tmp 34))]), (.cond (.tmp 35) (.seq (.reg [o1 4 (.mov (.const (.bool false)))]) .ret) .skip), (.reg [o1 36 (.fa 0 (.tmp 5)), o1 37 (.ld (some 2) (.tmp 36)), o1 38 (.bsl (.prod (.slice .str) .str) 1 2 [(.slice none 0 0), (.string ⟨#[]⟩)] [(0, (.tmp 37))]), o1 39 (.call (.func 29) [(.tmp 38)])]), (.reg [o1 40 (.fa 2 (.tmp 5)), o1 41 (.ld none (.tmp 40)), o1 42 (.call (.func 29) [(.tmp 41)])]), (.reg [o1 43 (.fa 14 (.tmp 5)), o1 44 (.ld none (.tmp 43)), o1 45 (.call (.func 29) [(.tmp 44)])]), (.reg [o1 46 (.fa 15 (.tmp 5)), o1 47 (.ld none (.tmp 46)), o1 48 (.call (.func 29) [(.tmp 47)])]), (.reg [o1 7 (.mov (ci 0))]), (.blk 0 (.loop (.seq (.seq (.reg [mv 49 7, o1 50 (.fa 5 (.tmp 5)), o1 51 (.ld none (.tmp 50)), o1 52 (.len false (.tmp 51)), o1 53 (.bin .lss 0 (.tmp 49) (.tmp 52))]) (.cond (.tmp 53) .skip (.exit 0))) (.seq (.blk 1 (.seq (.seq (.reg [o1 8 (.mov (ci 0))]) (.blk 2 (.loop (.seq (.seq (.reg [mv 56 8, o1 57 (.fa 5 (.tmp 5)), o1 58 (.ld none (.tmp 57)), mv 59 7, o1 60 (.ia 5 (.tmp 58) (.tmp 59)), o1 61 (.fa 1 (.tmp 60)), o1 62 (.ld none (.tmp 61)), o1 63 (.len false (.tmp 62)), o1 64 (.bin .lss 0 (.tmp 56) (.tmp 63))]) (.cond (.tmp 64) .skip (.exit 2))) (.seq (.blk 3 (.seq (.seq (.reg [o1 9 (.mov (ci 0))]) (.blk 4 (.loop (.seq (.seq (.reg [mv 67 9, o1 68 (.fa 5 (.tmp 5)), o1 69 (.ld none (.tmp 68)), mv 70 7, o1 71 (.ia 5 (.tmp 69) (.tmp 70)), o1 72 (.fa 1 (.tmp 71)), o1 73 (.ld none (.tmp 72)), mv 74 8, o1 75 (.ia 3 (.tmp 73) (.tmp 74)), o1 76 (.fa 2 (.tmp 75)), o1 77 (.ld none (.tmp 76)), o1 78 (.len false (.tmp 77)), o1 79 (.bin .lss 0 (.tmp 67) (.tmp 78))]) (.cond (.tmp 79) .skip (.exit 4))) (.seq (.blk 5 (.reg [o1 82 (.fa 5 (.tmp 5)), o1 83 (.ld none (.tmp 82)), mv 84 7, o1 85 (.ia 5 (.tmp 83) (.tmp 84)), o1 86 (.fa 1 (.tmp 85)), o1 87 (.ld none (.tmp 86)), mv 88 8, o1 89 (.ia 3 (.tmp 87) (.tmp 88)), o1 90 (.fa 2 (.tmp 89)), o1 91 (.ld none (.tmp 90)), mv 92 9, o1 93 (.ia 1 (.tmp 91) (.tmp 92)), o1 94 (.ld none (.tmp 93)), o1 95 (.bin .add 0 (.tmp 94) (.const (.int .u8 1))), o1 96 (.ia 1 (.tmp 91) (.tmp 92)), o0 (.st 1 (.tmp 96) (.tmp 95))])) (.reg [mv 80 9, o1 81 (.bin .add 0 (.tmp 80) (ci 1)), mv 9 81])))))) (.reg [o1 97 (.fa 5 (.tmp 5)), o1 98 (.ld none (.tmp 97)), mv 99 7, o1 100 (.ia 5 (.tmp 98) (.tmp 99)), o1 101 (.fa 1 (.tmp 100)), o1 102 (.ld none (.tmp 101)), mv 103 8, o1 104 (.ia 3 (.tmp 102) (.tmp 103)), o1 105 (.fa 0 (.tmp 104)), o1 106 (.ld none (.tmp 105)), o1 107 (.bin .add 0 (.tmp 106) (ci 1)), o1 108 (.ia 3 (.tmp 102) (.tmp 103)), o1 109 (.fa 0 (.tmp 108)), o0 (.st 1 (.tmp 109) (.tmp 107))]))) (.reg [mv 65 8, o1 66 (.bin .add 0 (.tmp 65) (ci 1)), mv 8 66])))))) (.reg [o1 110 (.fa 5 (.tmp 5)), o1 111 (.ld none (.tmp 110)), mv 112 7, o1 113 (.ia 5 (.tmp 111) (.tmp 112)), o1 114 (.fa 0 (.tmp 113)), o1 115 (.ld none (.tmp 114)), o1 116 (.bin .add 0 (.tmp 115) (ci 1)), o1 117 (.ia 5 (.tmp 111) (.tmp 112)), o1 118 (.fa 0 (.tmp 117)), o0 (.st 1 (.tmp 118) (.tmp 116))]))) (.reg [mv 54 7, o1 55 (.bin .add 0 (.tmp 54) (ci 1)), mv 7 55]))))), (.reg [o1 10 (.mov (ci 0))]), (.blk 6 (.loop (.seq (.seq (.reg [mv 119 10, o1 120 (.fa 16 (.tmp 5)), o1 121 (.ld none (.tmp 120)), o1 122 (.len false (.tmp 121)), o1 123 (.bin .lss 0 (.tmp 119) (.tmp 122))]) (.cond (.tmp 123) .skip (.exit 6))) (.seq (.blk 7 (.seq (.reg [o1 11 (.mov (ci 0))]) (.blk 8 (.loop (.seq (.seq (.reg [mv 126 11, o1 127 (.fa 16 (.tmp 5)), o1 128 (.ld none (.tmp 127)), mv 129 10, o1 130 (.ia 1 (.tmp 128) (.tmp 129)), o1 131 (.ld none (.tmp 130)), o1 132 (.len false (.tmp 131)), o1 133 (.bin .lss 0 (.tmp 126) (.tmp 132))]) (.cond (.tmp 133) .skip (.exit 8))) (.seq (.blk 9 (.reg [o1 136 (.fa 16 (.tmp 5)), o1 137 (.ld none (.tmp 136)), mv 138 10, o1 139 (.ia 1 (.tmp 137) (.tmp 138)), o1 140 (.ld none (.tmp 139)), mv 141 11, o1 142 (.ia 1 (.tmp 140) (.tmp 141)), o1 143 (.ld none (.tmp 142)), o1 144 (.bin .add 0 (.tmp 143) (.const (.int .u8 1))), o1 145 (.ia 1 (.tmp 140) (.tmp 141)), o0 (.st 1 (.tmp 145) (.tmp 144))])) (.reg [mv 134 11, o1 135 (.bin .add 0 (.tmp 134) (ci 1)), mv 11 135]))))))) (.reg [mv 124 10, o1 125 (.bin .add 0 (.tmp 124) (ci 1)), mv 10 125]))))), (.reg [o1 146 (.ld (some 17) (.tmp 6)), o1 147 (.ld (some 17) (.tmp 2)), o1 148 (.call (.func 17) [(.tmp 146), (.tmp 147)]), mv 149 148, oT 150 (.call (.func 12) []) 149, o1 151 (.pick (.tmp 149) (.tmp 150) (.const (.bool false))), mv 4 151]), .ret]⟩
attribute [go_sem] irx6

variable {q : Nat → Prop} {w0 : World}
theorem rel_sl' {t : Ty} {xs : List t.den} {vs : List Value} (h : (Ty.slice t).rel q w0 xs vs) : ∃ A c, vs = [.slice A xs.length c] ∧ Sl q w0 t xs (.slice A xs.length c) := by
 obtain ⟨A, n, c, rfl, h1⟩ := rel_sl h
 obtain ⟨A', c', h2, _⟩ := h1.out
 cases h2
 exact ⟨A, c, rfl, h1⟩
theorem rel_ent {e : Ent} {vs : List Value} (hv : EntT.rel q w0 e vs) : ∃ A1 c1 A2 c2 A5 c5 A14 c14 A15 c15 A16 c16,
 vs = [.slice A1 e.1.1.length c1, .string e.1.2, .slice A2 e.2.1.length c2, .int .u32 e.2.2.1, .int .i64 e.2.2.2.1, .slice A5 e.2.2.2.2.1.length c5, .string e.2.2.2.2.2.1, .int .i64 e.2.2.2.2.2.2.1, .int .i64 e.2.2.2.2.2.2.2.1, .int .i64 e.2.2.2.2.2.2.2.2.1, .int .i64 e.2.2.2.2.2.2.2.2.2.1, .int .i64 e.2.2.2.2.2.2.2.2.2.2.1, .int .i64 e.2.2.2.2.2.2.2.2.2.2.2.1, .int .i64 e.2.2.2.2.2.2.2.2.2.2.2.2.1, .slice A14 e.2.2.2.2.2.2.2.2.2.2.2.2.2.1.length c14, .slice A15 e.2.2.2.2.2.2.2.2.2.2.2.2.2.2.1.length c15, .slice A16 e.2.2.2.2.2.2.2.2.2.2.2.2.2.2.2.length c16] ∧
 PrinT.rel q w0 e.1 [.slice A1 e.1.1.length c1, .string e.1.2] ∧ Sl q w0 PrinT e.2.1 (.slice A2 e.2.1.length c2) ∧ Sl q w0 SetT e.2.2.2.2.1 (.slice A5 e.2.2.2.2.1.length c5) ∧ Sl q w0 PrinT e.2.2.2.2.2.2.2.2.2.2.2.2.2.1 (.slice A14 e.2.2.2.2.2.2.2.2.2.2.2.2.2.1.length c14) ∧ Sl q w0 PrinT e.2.2.2.2.2.2.2.2.2.2.2.2.2.2.1 (.slice A15 e.2.2.2.2.2.2.2.2.2.2.2.2.2.2.1.length c15) ∧ Sl q w0 (.slice .u8) e.2.2.2.2.2.2.2.2.2.2.2.2.2.2.2 (.slice A16 e.2.2.2.2.2.2.2.2.2.2.2.2.2.2.2.length c16) := by
 obtain ⟨v1, u1, rfl, r1, hv⟩ := rel_pr hv
 obtain ⟨v2, u2, rfl, r2, hv⟩ := rel_pr hv
 obtain ⟨v3, u3, rfl, r3, hv⟩ := rel_pr hv
 obtain ⟨v4, u4, rfl, r4, hv⟩ := rel_pr hv
 obtain ⟨v5, u5, rfl, r5, hv⟩ := rel_pr hv
 obtain ⟨v6, u6, rfl, r6, hv⟩ := rel_pr hv
 obtain ⟨v7, u7, rfl, r7, hv⟩ := rel_pr hv
 obtain ⟨v8, u8, rfl, r8, hv⟩ := rel_pr hv
 obtain ⟨v9, u9, rfl, r9, hv⟩ := rel_pr hv
 obtain ⟨v10, u10, rfl, r10, hv⟩ := rel_pr hv
 obtain ⟨v11, u11, rfl, r11, hv⟩ := rel_pr hv
 obtain ⟨v12, u12, rfl, r12, hv⟩ := rel_pr hv
 obtain ⟨v13, u13, rfl, r13, hv⟩ := rel_pr hv
 obtain ⟨v14, u14, rfl, r14, hv⟩ := rel_pr hv
 obtain ⟨v15, v16, rfl, r15, r16⟩ := rel_pr hv
 obtain ⟨x1, x2, rfl, p1, p2⟩ := rel_pr r1
 obtain ⟨A1, c1, rfl, s1⟩ := rel_sl' p1
 obtain rfl := rel_str p2
 obtain ⟨A2, c2, rfl, s2⟩ := rel_sl' r2
 obtain rfl := rel_int r3
 obtain rfl := rel_int r4
 obtain ⟨A5, c5, rfl, s5⟩ := rel_sl' r5
 obtain rfl := rel_str r6
 obtain rfl := rel_int r7
 obtain rfl := rel_int r8
 obtain rfl := rel_int r9
 obtain rfl := rel_int r10
 obtain rfl := rel_int r11
 obtain rfl := rel_int r12
 obtain rfl := rel_int r13
 obtain ⟨A14, c14, rfl, s14⟩ := rel_sl' r14
 obtain ⟨A15, c15, rfl, s15⟩ := rel_sl' r15
 obtain ⟨A16, c16, rfl, s16⟩ := rel_sl' r16
 exact ⟨A1, c1, A2, c2, A5, c5, A14, c14, A15, c15, A16, c16, rfl, r1, s2, s5, s14, s15, s16⟩
end Go.Proofs.YtddmkgibghohkaaGreatDoor
/- Contracts: entry.Names. -/
namespace Go.Proofs.YtddmkgibghohkaaGreatDoor
open Go Go.Sx Go.Proofs
set_option maxRecDepth 100000
set_option maxHeartbeats 4000000
set_option linter.unusedSimpArgs false

def irx28 (r : Array Oper) : XI := ⟨13, [.tmp 2], [(.reg [o1 1 (.box 31 (.tmp 0)), o1 2 (.mov (.const .nilFunc))])], r, [(.reg [o1 12 (.mkf 62 [] [(.tmp 3)]), mv 2 12]), .ret]⟩
theorem fix28 : xinfo Tryz.prog 28 = some (irx28 (xreg Tryz.prog 28)) := by kernel_rfl
attribute [go_sem] irx28
variable {q : Nat → Prop} {w0 : World}
def nmsE (e : Ent) : List Prin := e.1 :: e.2.1
theorem names_z (e : Ent) {vs : List Value} (hv : EntT.rel q w0 e vs) (ho : EntT.ok e) (hs : small47 e) : PCZ q w0 Tryz.prog 28 [.agg (rawL vs)] (.fn 62 [] [.iptr (.slice PrinT) (nmsE e) 0]) := by
 letI : Ghost := frzG q w0
 obtain ⟨A1, c1, A2, c2, A5, c5, A14, c14, A15, c15, A16, c16, rfl, r1, s2, -, -, -, -⟩ := rel_ent hv
 obtain ⟨h1, ⟨h2, h2'⟩, -⟩ := hs
 refine pcz_of rfl rfl ?_
 refine vcz_xi fix28 ?_
 refine run_sound mixed 600 _ ?_
 generalize hR : xreg Tryz.prog 28 = R
 with_reducible refine sxE ?_
 subst hR
 intro id k hns hrel
 refine am_start (G := [0]) mixed (m := 10) (by kernel_rfl) ?_
 refine am_valA (i := 0) (io := ⟨some 4, .fa 0 (.tmp 1), none⟩) (by kernel_rfl) (by kernel_rfl) (fun H' => rfl) trivial ?_
 refine am_val (i := 1) (io := ⟨some 5, .ld (some 2) (.tmp 4), none⟩) (by kernel_rfl) (by kernel_rfl) rfl rfl trivial ?_
 refine am_call (i := 2) (io := ⟨some 6, .call (.func 58) [.tmp 5], none⟩) (by kernel_rfl) (by kernel_rfl) (fun H' => rfl) (by kernel_rfl) (fun H' K hk => ((ncopy_z e.1 r1 (by omega)).2 H' K hk).g) ?_
 refine am_bsl (i := 3) (d := some 7) (ty := PrinT) (m := 1) (sz := 2) (zs := [.slice none 0 0, .string ⟨#[]⟩]) (ps := [(0, .tmp 6)]) (xs := [e.1]) (by kernel_rfl) (by kernel_rfl) (cs := PrinT.cells e.1) rfl rfl ?_ (by omega) ?_
 · exact ⟨⟨trivial, ho.1.2⟩, trivial⟩
 refine am_valA (i := 4) (io := ⟨some 8, .fa 2 (.tmp 1), none⟩) (by kernel_rfl) (by kernel_rfl) (fun H' => rfl) trivial ?_
 refine am_val (i := 5) (io := ⟨some 9, .ld none (.tmp 8), none⟩) (by kernel_rfl) (by kernel_rfl) rfl rfl trivial ?_
 refine am_call (i := 6) (io := ⟨some 10, .call (.func 59) [.tmp 9, .func 58], none⟩) (by kernel_rfl) (by kernel_rfl) (fun H' => rfl) (by kernel_rfl)
  (fun H' K hk => ((copies_prin_z e.2.1 58 s2 (by omega) ho.2.1.2 (fun x hx vs hvs => ncopy_z x hvs (by have := h2' x hx; omega))).2 H' K hk).g) ?_
 refine am_valA (i := 7) (io := ⟨some 11, .app PrinT 40 (.tmp 7) (.tmp 10), none⟩) (by kernel_rfl) (by kernel_rfl) (fun H' => rfl) ?_ ?_
 · exact ⟨trivial, by show 1 + e.2.1.length ≤ 1125899906842624; omega, by show (1 + e.2.1.length) * 40 ≤ 140737488355328; omega⟩
 refine am_tail (l := [(false, ⟨some 3, .new 25 [.slice none 0 0], none⟩), (false, ⟨none, .st 1 (.tmp 3) (.tmp 11), none⟩)]) (by kernel_rfl) hrel ?_
 clear hrel hns
 refine run_sound mixed 3 _ ?_
 with_reducible refine sxE ?_
 have hn : (nmsE e).length ≤ 1125899906842624 := by simp only [nmsE, List.length_cons]; omega
 have hok : (Ty.slice PrinT).ok (nmsE e) := ⟨hn, fun x hx => by
  rcases List.mem_cons.1 hx with rfl | hx
  · exact ho.1
  · exact ho.2.1.2 x hx⟩
 refine si_frzc 3 1 (ty := .slice PrinT) (x := nmsE e) rfl hok rfl rfl ?_
 refine goE mixed ?_; trivial
end Go.Proofs.YtddmkgibghohkaaGreatDoor
/- Contracts: the reference on keys and principals. -/
namespace Go.Proofs.YtddmkgibghohkaaGreatDoor
open Go Go.Sx Go.Proofs
set_option maxRecDepth 100000
set_option maxHeartbeats 4000000
set_option linter.unusedSimpArgs false

def inR (v lo hi : Int) : Bool := decide (lo ≤ v) && decide (v ≤ hi)
theorem strOf_inj {xs ys : List UInt8} : strOf xs = strOf ys ↔ xs = ys := by
 constructor
 · intro h
   have := congrArg (fun s : ByteArray => s.data.toList) h
   simpa [strOf] using this
 · rintro rfl; rfl
theorem rsk_c (a b : Key) : PC Tryz.prog 57 [.agg (KeyT.cells a), .agg (KeyT.cells b)] (rB (decide (a = b))) := by
 obtain ⟨p, v, l⟩ := a
 obtain ⟨p', v', l'⟩ := b
 refine pc_of rfl rfl ?_
 refine runE mixed fi57 ?_ <;> try with_reducible exact True.intro
 repeat' (first
  | (with_reducible refine And.intro ?_ ?_)
  | (with_reducible intro _))
 all_goals (simp_all [strOf_inj])

def eqAt {α : Type} [DecidableEq α] (l l' : List α) (d : α) (j : Nat) : Bool := decide (l.getD j d = l'.getD j d)
theorem sameN {α : Type} [DecidableEq α] (l l' : List α) (d : α) : (l = l') ↔ (l.length = l'.length ∧ allN l.length (eqAt l l' d) = true) := by
 constructor
 · rintro rfl
   exact ⟨rfl, allN_true fun j _ => by simp [eqAt]⟩
 · rintro ⟨h1, h2⟩
   apply List.ext_getElem h1
   intro j g1 g2
   have := allN_iff.1 h2 j g1
   simp only [eqAt, decide_eq_true_eq, List.getD_eq_getElem?_getD, List.getElem?_eq_getElem g1, List.getElem?_eq_getElem g2, Option.getD_some] at this
   exact this
theorem rsp_c (a b : Prin) (ha : PrinT.ok a) : PC Tryz.prog 50 [.agg (PrinT.cells a), .agg (PrinT.cells b)] (rB (decide (a = b))) := by
 obtain ⟨l, r⟩ := a
 obtain ⟨l', r'⟩ := b
 have hl : l.length ≤ 1125899906842624 := ha.1.1
 refine pc_of rfl rfl ?_
 refine runE mixed fi50 ?_ <;> try with_reducible exact True.intro
 repeat' (first
  | (with_reducible refine And.intro ?_ ?_)
  | (with_reducible intro _))
 all_goals (skip)
 · grind
 · refine si_cntD (fun i => [(5, .raw (.int .i64 ((i : Nat) : Int)))]) (l.length) (fun j => (eqAt l l' ByteArray.empty) j = true) (by first | decide | simp) (fun i => rfl) ?_ fun i hi hall => ?_
   · (with_reducible refine sxE ?_ <;> try exact True.intro)
     all_goals (try rfl)
   have hwr : IntKind.i64.wrap ((i : Int) + 1) = ((i + 1 : Nat) : Int) := wrap_succ (by omega)
   refine goE mixed ?_
   have bad : i < (l.length) → (eqAt l l' ByteArray.empty) i = false → allN (l.length) (eqAt l l' ByteArray.empty) = false := fun hlt hv => allN_false hlt hv
   have fin : ¬ i < (l.length) → allN (l.length) (eqAt l l' ByteArray.empty) = true := fun h => allN_true fun j hj => hall j (by omega)
   try dsimp only at bad fin hall
   have key := sameN l l' ByteArray.empty
   repeat' (first
    | (with_reducible refine And.intro ?_ ?_)
    | (with_reducible intro _))
   all_goals (first | (with_reducible (refine (id ?_ : SoundI _ _ _))) | ((try simp only [Ty.dflt] at *); first | omega | (refine ⟨by omega, next_all hall (by grind [eqAt]), ⟨_, by first | rfl | exact List.append_assoc _ _ _ | (simp only [List.append_assoc, List.cons_append, List.nil_append]; rfl)⟩, ?_⟩; simp only [hwr, go_sem, ↓zA, ↓reduceIte, ↓reduceDIte, reduceCtorEq, Nat.reduceAdd, Nat.reduceSub, Nat.reduceLeDiff, Nat.reduceLT, Nat.reduceEqDiff, Nat.reduceBEq, Nat.reduceMul, Int.reduceToNat, Int.reduceEq, Int.reduceLT, Int.reduceLE] <;> (first | rfl | (grind [eqAt]))) | (refine ⟨_, rfl⟩) | (refine ⟨_, List.append_assoc _ _ _⟩) | (grind [eqAt])))
 · grind

end Go.Proofs.YtddmkgibghohkaaGreatDoor
