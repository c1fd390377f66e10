/- Contracts: messages: the writers, as a whole. -/
import Derived.Test.YthmoognbccfpiaaGreatDoorP18
import Derived.Test.YthmoognbccfpiaaGreatDoorP20
import Derived.Test.YthmoognbccfpiaaGreatDoorP17
set_option linter.unusedSimpArgs false
set_option linter.unusedVariables false
set_option linter.unusedSectionVars false
namespace Go.Proofs.YthmoognbccfpiaaGreatDoor
open Go Go.Sx Go.Proofs
set_option maxRecDepth 100000
set_option maxHeartbeats 4000000
set_option linter.unusedSimpArgs false

def failS (f : Fail) : List UInt8 := wrapS 96 30 (elemS 48 [wrapS 160 0 (intS 5), wrapS 160 1 (intS 30), wrapS 160 2 (timeS f.2.1), wrapS 160 3 (intS f.2.2.1), wrapS 160 4 (intS f.1), optS 5 (!noN f.2.2.2.1) (prinE f.2.2.2.1), wrapS 160 6 (prinE f.2.2.2.2.1), optS 7 (!decide (f.2.2.2.2.2.1 = ⟨#[]⟩)) (elemS 27 [f.2.2.2.2.2.1.data.toList]), preS 8 f.2.2.2.2.2.2])
theorem wfail1_c (f : Fail) (ho : FailT.ok f) : PC Tryz.prog 125 [.iptr FailT f 0] (.isl .u8 (prinE f.2.2.2.1)) := by
 obtain ⟨c, t, m, cl, sv, x, d⟩ := f
 obtain ⟨_, _, _, o4, o5, o6, _⟩ := ho
 refine pc_seal rfl rfl ?_
 refine runE mixed fi125 ?_
 refine callI_pure (mprin_c cl o4) ?_
 refine goE mixed ?_; trivial
theorem wfail2_c (f : Fail) (ho : FailT.ok f) : PC Tryz.prog 126 [.iptr FailT f 0] (.isl .u8 (elemS 27 [f.2.2.2.2.2.1.data.toList])) := by
 obtain ⟨c, t, m, cl, sv, x, d⟩ := f
 obtain ⟨_, _, _, o4, o5, o6, _⟩ := ho
 refine pc_seal rfl rfl ?_
 refine runE mixed fi126 ?_
 refine callI_pure (dstring_c x o6) ?_
 refine goE mixed ?_; trivial
theorem wfail_c (f : Fail) (ho : FailT.ok f) (hl : f.2.2.2.2.2.2.length ≤ 1048576) : PC Tryz.prog 61 [.agg (FailT.cells f)] (.isl .u8 (failS f)) := by
 have h1 := wfail1_c f ho
 have h2 := wfail2_c f ho
 have ho' := ho
 obtain ⟨c, t, m, cl, sv, x, d⟩ := f
 obtain ⟨_, _, _, o4, o5, o6, o7⟩ := ho
 dsimp only at hl
 refine pc_seal rfl rfl ?_
 refine vc_fi fi61 (run_sound mixed 3 _ ?_)
 with_reducible refine sxE ?_
 refine si_frzc 1 0 (ty := FailT) (x := (c, t, m, cl, sv, x, d)) rfl ho' rfl rfl ?_
 refine goE mixed ?_
 refine callR_pure (integer_c 5) ?_
 refine goE mixed ?_
 refine callR_pure (tagged_c _ _) ?_
 refine goE mixed ?_
 refine callR_pure (integer_c 30) ?_
 refine goE mixed ?_
 refine callR_pure (tagged_c _ _) ?_
 refine goE mixed ?_
 refine callR_pure (time_c t) ?_
 refine goE mixed ?_
 refine callR_pure (tagged_c _ _) ?_
 refine goE mixed ?_
 refine callR_pure (integer_c m) ?_
 refine goE mixed ?_
 refine callR_pure (tagged_c _ _) ?_
 refine goE mixed ?_
 refine callR_pure (integer_c c) ?_
 refine goE mixed ?_
 refine callR_pure (tagged_c _ _) ?_
 refine goE mixed ?_
 refine callR_pure (noName_c cl) ?_
 refine goE mixed ?_
 refine callR_pure (optional_c 5 _ _ _ _ rfl fun _ => h1) ?_
 refine goE mixed ?_
 refine callR_pure (mprin_c sv o5) ?_
 refine goE mixed ?_
 refine callR_pure (tagged_c _ _) ?_
 refine goE mixed ?_
 refine callR_pure (optional_c 7 _ _ _ _ rfl fun _ => h2) ?_
 refine goE mixed ?_
 refine callR_pure (preAuth_c 8 d o7 hl) ?_
 refine goE mixed ?_
 refine callR_hand 1 (by decide) ?_
 with_reducible refine sxE ?_
 refine callR_pure (mapp_c 30 _ (by simp)) ?_
 refine goE mixed ?_
 rfl
def shortS (b : List UInt8) : List UInt8 := if b.length ≤ 65536 then b else []
theorem short_c (b : List UInt8) : PC Tryz.prog 32 [.isl .u8 b] (.tup [.isl .u8 (shortS b), rI (if b.length ≤ 65536 then 0 else 2)]) := by
 refine pc_seal rfl rfl ?_
 refine runE mixed fi32 ?_
 refine ⟨fun h => ?_, fun h => ?_⟩
 · unfold shortS; rw [if_neg (by omega), if_neg (by omega)]; exact ⟨rfl, rfl⟩
 · unfold shortS; rw [if_pos (by omega), if_pos (by omega)]; exact ⟨rfl, rfl⟩
theorem sFail_len {f : Fail} (h : sFail f = true) : f.2.2.2.2.2.2.length ≤ 1048576 := by
 simp only [sFail, vPre, Bool.and_eq_true, decide_eq_true_eq] at h
 have := h.2.2.2.2.2.2.2.1
 omega
def vFail (f : Fail) : Bool := sFail f && decide ((failS f).length ≤ 65536)
theorem encFail_c (f : Fail) (ho : FailT.ok f) : PC Tryz.prog 21 [.agg (FailT.cells f)] (.tup [.isl .u8 (if vFail f then failS f else []), rI (if vFail f then 0 else 2)]) := by
 have h1 := sfail_c f ho
 have h2 := fun h => wfail_c f ho (sFail_len h)
 have h3 := short_c (failS f)
 have hv : vFail f = (sFail f && decide ((failS f).length ≤ 65536)) := rfl
 have hs : shortS (failS f) = if (failS f).length ≤ 65536 then failS f else [] := rfl
 rw [hv]
 clear hv
 generalize sFail f = s at *
 generalize failS f = w at *
 obtain ⟨c, t, m, cl, sv, x, d⟩ := f
 refine pc_seal rfl rfl ?_
 refine runE mixed fi21 ?_
 refine callI_pure h1 ?_
 refine goE mixed ?_
 refine ⟨fun h => ?_, fun h => callI_pure (h2 h) ?_⟩
 · rw [h]; exact ⟨rfl, rfl⟩
 · refine goE mixed ?_
   refine callI_pure h3 ?_
   refine goE mixed ?_
   rw [h, hs]
   by_cases hw : w.length ≤ 65536
   · rw [if_pos hw, if_pos hw, decide_eq_true hw]; exact ⟨rfl, rfl⟩
   · rw [if_neg hw, if_neg hw, decide_eq_false hw]; exact ⟨rfl, rfl⟩
def hostS (n : Int) (l : List Pre) (w : List UInt8) : List UInt8 := optS n (decide (0 < (l.length : Int))) w
def bodyS (r : Req) (wa wt : List UInt8) : List UInt8 := elemS 48 [wrapS 160 0 (bitsS r.2.2.1), optS 1 (decide (r.1 = 10)) (prinE r.2.2.2.1), wrapS 160 2 (prinE r.2.2.2.2.1), instS 3 r.2.2.2.2.2.1, wrapS 160 4 (timeS r.2.2.2.2.2.2.1), instS 5 r.2.2.2.2.2.2.2.1, wrapS 160 6 (intS r.2.2.2.2.2.2.2.2.1), wrapS 160 7 (elemS 48 (mapN (t := I64) intS r.2.2.2.2.2.2.2.2.2.1 r.2.2.2.2.2.2.2.2.2.1.length)), hostS 8 r.2.2.2.2.2.2.2.2.2.2.1 wa, optS 9 (decide (0 < (r.2.2.2.2.2.2.2.2.2.2.2.length : Int))) wt]
theorem wbody1_c (r : Req) (ho : ReqT.ok r) : PC Tryz.prog 112 [.iptr ReqT r 0] (.isl .u8 (prinE r.2.2.2.1)) := by
 obtain ⟨k, pre, opt, cl, sv, fr, ti, re, no, pf, ad, tk⟩ := r
 obtain ⟨_, o2, _, o4, o5, _⟩ := ho
 refine pc_seal rfl rfl ?_
 refine runE mixed fi112 ?_
 refine callI_pure (mprin_c cl o4) ?_
 refine goE mixed ?_; trivial
theorem hosts_c (n : Int) (l : List Pre) (w : List UInt8) (ho : (Ty.slice PreT).ok l) (ha : l ≠ [] → PC Tryz.prog 173 [.isl PreT l] (.isl .u8 w)) : PC Tryz.prog 116 [rI n, .isl PreT l] (.isl .u8 (hostS n l w)) := by
 refine pc_seal rfl rfl ?_
 refine vc_fi fi116 (run_sound mixed 3 _ ?_)
 with_reducible refine sxE ?_
 refine si_frzc 3 0 (ty := .slice PreT) (x := l) rfl ho rfl rfl ?_
 refine goE mixed ?_
 have h1 : l ≠ [] → PC Tryz.prog 172 [.iptr (.slice PreT) l 0] (.isl .u8 w) := fun h0 => by
  refine pc_seal rfl rfl ?_
  refine runE mixed fi172 ?_
  refine callI_pure (ha h0) ?_
  refine goE mixed ?_; trivial
 refine callI_pure (optional_c n _ _ _ _ rfl fun h => h1 (by rintro rfl; exact absurd h (by decide))) ?_
 refine goE mixed ?_
 rfl
theorem wbody_c (r : Req) (wa wt : List UInt8) (ho : ReqT.ok r) (hr : 0 ≤ r.2.2.1 ∧ r.2.2.1 ≤ 4294967295) (hl : r.2.2.2.2.2.2.2.2.2.1.length ≤ 1048576) (ha : r.2.2.2.2.2.2.2.2.2.2.1 ≠ [] → PC Tryz.prog 173 [.isl PreT r.2.2.2.2.2.2.2.2.2.2.1] (.isl .u8 wa))
 (ht : r.2.2.2.2.2.2.2.2.2.2.2 ≠ [] → PC Tryz.prog 117 [.iptr ReqT r 0] (.isl .u8 wt)) : PC Tryz.prog 57 [.agg (ReqT.cells r)] (.isl .u8 (bodyS r wa wt)) := by
 have h1 := wbody1_c r ho
 have ho' := ho
 obtain ⟨k, pre, opt, cl, sv, fr, ti, re, no, pf, ad, tk⟩ := r
 obtain ⟨_, o2, _, o4, o5, _, _, _, _, o10, o11, o12⟩ := ho
 dsimp only at hl ha hr
 have h2 : decide (0 < (tk.length : Int)) = true → PC Tryz.prog 117 [.iptr ReqT (k, pre, opt, cl, sv, fr, ti, re, no, pf, ad, tk) 0] (.isl .u8 wt) := fun h => ht (by dsimp only; rintro rfl; exact absurd h (by decide))
 clear ht
 refine pc_seal rfl rfl ?_
 refine vc_fi fi57 (run_sound mixed 3 _ ?_)
 with_reducible refine sxE ?_
 refine si_frzc 1 0 (ty := ReqT) (x := (k, pre, opt, cl, sv, fr, ti, re, no, pf, ad, tk)) rfl ho' rfl rfl ?_
 refine goE mixed ?_
 refine callR_pure (bits_c opt hr) ?_
 refine goE mixed ?_
 refine callR_pure (tagged_c _ _) ?_
 refine goE mixed ?_
 refine callR_pure (optional_c 1 _ _ _ _ rfl fun _ => h1) ?_
 refine goE mixed ?_
 refine callR_pure (mprin_c sv o5) ?_
 refine goE mixed ?_
 refine callR_pure (tagged_c _ _) ?_
 refine goE mixed ?_
 refine callR_pure (instant_c 3 fr) ?_
 refine goE mixed ?_
 refine callR_pure (time_c ti) ?_
 refine goE mixed ?_
 refine callR_pure (tagged_c _ _) ?_
 refine goE mixed ?_
 refine callR_pure (instant_c 5 re) ?_
 refine goE mixed ?_
 refine callR_pure (integer_c no) ?_
 refine goE mixed ?_
 refine callR_pure (tagged_c _ _) ?_
 refine goE mixed ?_
 refine callR_pure (listI_c pf _ intS hl fun x _ => integer_c x) ?_
 refine goE mixed ?_
 refine callR_pure (tagged_c _ _) ?_
 refine goE mixed ?_
 refine callR_pure (hosts_c 8 ad wa o11 ha) ?_
 refine goE mixed ?_
 refine callR_pure (optional_c 9 _ _ _ _ rfl h2) ?_
 refine goE mixed ?_
 refine callR_hand 1 (by decide) ?_
 with_reducible refine sxE ?_
 refine callR_pure (sequence_c _ (by simp)) ?_
 refine goE mixed ?_
 rfl
def reqS (r : Req) (wa wt : List UInt8) : List UInt8 := wrapS 96 r.1 (elemS 48 [wrapS 160 1 (intS 5), wrapS 160 2 (intS r.1), preS 3 r.2.1, wrapS 160 4 (bodyS r wa wt)])
structure ReqC (r : Req) (va vt : Bool) (wa wt : List UInt8) : Prop where
 ok : ReqT.ok r
 opt : 0 ≤ r.2.2.1 ∧ r.2.2.1 ≤ 4294967295
 va : PC Tryz.prog 123 [.isl PreT r.2.2.2.2.2.2.2.2.2.2.1] (rB va)
 vt : PC Tryz.prog 124 [.isl TickT r.2.2.2.2.2.2.2.2.2.2.2] (rB vt)
 wa : r.2.2.2.2.2.2.2.2.2.2.1 ≠ [] → PC Tryz.prog 173 [.isl PreT r.2.2.2.2.2.2.2.2.2.2.1] (.isl .u8 wa)
 wt : r.2.2.2.2.2.2.2.2.2.2.2 ≠ [] → PC Tryz.prog 117 [.iptr ReqT r 0] (.isl .u8 wt)
theorem sReq_len {r : Req} {va vt : Bool} (h : sReq r va vt = true) : r.2.1.length ≤ 1048576 ∧ r.2.2.2.2.2.2.2.2.2.1.length ≤ 1048576 := by
 simp only [sReq, vPre, vProf, Bool.and_eq_true, decide_eq_true_eq] at h
 have h1 := h.2.1.1
 have h2 := h.2.2.2.2.2.2.2.2.2.1.2.1
 omega
theorem wreq_c {r : Req} {va vt : Bool} {wa wt : List UInt8} (h : ReqC r va vt wa wt) (hs : sReq r va vt = true) : PC Tryz.prog 59 [.agg (ReqT.cells r)] (.isl .u8 (reqS r wa wt)) := by
 obtain ⟨hl, hp⟩ := sReq_len hs
 have hb := wbody_c r wa wt h.ok h.opt hp h.wa h.wt
 have ho := h.ok
 have hr : reqS r wa wt = wrapS 96 r.1 (elemS 48 [wrapS 160 1 (intS 5), wrapS 160 2 (intS r.1), preS 3 r.2.1, wrapS 160 4 (bodyS r wa wt)]) := rfl
 rw [hr]
 clear hr hs h hp
 generalize bodyS r wa wt = bd at *
 obtain ⟨k, pre, opt, cl, sv, fr, ti, re, no, pf, ad, tk⟩ := r
 obtain ⟨_, o2, _⟩ := ho
 dsimp only at hl
 refine pc_seal rfl rfl ?_
 refine runE mixed fi59 ?_
 refine callR_pure (integer_c 5) ?_
 refine goE mixed ?_
 refine callR_pure (tagged_c _ _) ?_
 refine goE mixed ?_
 refine callR_pure (integer_c k) ?_
 refine goE mixed ?_
 refine callR_pure (tagged_c _ _) ?_
 refine goE mixed ?_
 refine callR_pure (preAuth_c 3 pre o2 hl) ?_
 refine goE mixed ?_
 refine callR_pure (hb) ?_
 refine goE mixed ?_
 refine callR_pure (tagged_c _ _) ?_
 refine goE mixed ?_
 refine callR_hand 1 (by decide) ?_
 with_reducible refine sxE ?_
 refine callR_pure (mapp_c k _ (by simp)) ?_
 refine goE mixed ?_; trivial
def vReq (r : Req) (va vt : Bool) (wa wt : List UInt8) : Bool := sReq r va vt && decide ((reqS r wa wt).length ≤ 65536)
theorem validReq_c {r : Req} {va vt : Bool} {wa wt : List UInt8} (hc : ReqC r va vt wa wt) : PC Tryz.prog 25 [.agg (ReqT.cells r)] (rB (vReq r va vt wa wt)) := by
 have h1 := sreq_c r va vt hc.ok hc.va hc.vt
 have h2 := fun h => wreq_c hc h
 have hv : vReq r va vt wa wt = (sReq r va vt && decide ((reqS r wa wt).length ≤ 65536)) := rfl
 rw [hv]
 clear hv hc
 generalize sReq r va vt = s at *
 generalize reqS r wa wt = w at *
 obtain ⟨k, pre, opt, cl, sv, fr, ti, re, no, pf, ad, tk⟩ := r
 refine pc_of rfl rfl ?_
 refine runE mixed fi25 ?_
 refine callI_pure h1 ?_
 refine goE mixed ?_
 refine ⟨fun h => callI_pure (h2 h) ?_, fun h => by rw [h]; rfl⟩
 refine goE mixed ?_
 rw [h, Bool.true_and]
 exact decide_eq_decide.2 (by omega)
theorem body_c {r : Req} {va vt : Bool} {wa wt : List UInt8} (hc : ReqC r va vt wa wt) : PC Tryz.prog 19 [.agg (ReqT.cells r)] (.tup [.isl .u8 (if vReq r va vt wa wt then bodyS r wa wt else []), rI (if vReq r va vt wa wt then 0 else 2)]) := by
 have h1 := validReq_c hc
 have h2 : vReq r va vt wa wt = true → PC Tryz.prog 57 [.agg (ReqT.cells r)] (.isl .u8 (bodyS r wa wt)) := fun h => by
  simp only [vReq, Bool.and_eq_true] at h
  exact wbody_c r wa wt hc.ok hc.opt (sReq_len h.1).2 hc.wa hc.wt
 clear hc
 generalize vReq r va vt wa wt = v at *
 generalize bodyS r wa wt = w at *
 obtain ⟨k, pre, opt, cl, sv, fr, ti, re, no, pf, ad, tk⟩ := r
 refine pc_seal rfl rfl ?_
 refine runE mixed fi19 ?_
 refine callI_pure h1 ?_
 refine goE mixed ?_
 refine ⟨fun h => ?_, fun h => callI_pure (h2 h) ?_⟩
 · rw [h]; exact ⟨rfl, rfl⟩
 · refine goE mixed ?_
   rw [h]; exact ⟨rfl, rfl⟩
def typN (b : List UInt8) : Int := ((b.getD 0 0).toNat : Int) - 96
def typB (b : List UInt8) : Bool := decide (b ≠ []) && (mIn 10 13 (typN b) || decide (typN b = 30))
theorem type_c (b : List UInt8) : PC Tryz.prog 22 [.isl .u8 b] (.tup [rI (if typB b then typN b else 0), rI (if typB b then 0 else 6)]) := by
 refine pc_of rfl rfl ?_
 refine runE mixed fi22 ?_
 refine ⟨fun h => ?_, fun h => ⟨by omega, ?_⟩⟩
 · obtain rfl : b = [] := List.length_eq_zero_iff.1 (by omega)
   rfl
 have hne : b ≠ [] := fun e => h (by rw [e]; rfl)
 have hlt := (b.getD 0 Ty.u8.dflt).toNat_lt
 have hn : typN b = ((b.getD 0 Ty.u8.dflt).toNat : Int) - 96 := rfl
 have hb : typB b = (mIn 10 13 (typN b) || decide (typN b = 30)) := by unfold typB; rw [decide_eq_true hne, Bool.true_and]
 rw [wrapi (n := ((b.getD 0 Ty.u8.dflt).toNat : Int)) (by omega), wrapi (n := ((b.getD 0 Ty.u8.dflt).toNat : Int) - 96) (by omega), ← hn, hb]
 clear hn hb hlt hne h
 generalize typN b = n
 refine callI_pure (mbtw_c _ _ _) ?_
 refine goE mixed ?_
 refine ⟨fun h1 => ⟨fun h2 => ?_, fun h2 => ?_⟩, fun h1 => ?_⟩
 · rw [h1, decide_eq_true h2]; rfl
 · rw [h1, decide_eq_false h2]; rfl
 · rw [h1]; rfl
def kindV (b : List UInt8) (off : Int) : Int := (if typB b then typN b else 0) - off
def kindB (b : List UInt8) (off : Int) : Bool := typB b && (decide (b.length ≤ 65536) && vKind (kindV b off))
theorem kindOf_c (b : List UInt8) (off : Int) (ho : 0 ≤ off ∧ off ≤ 10) : PC Tryz.prog 34 [.isl .u8 b, rI off] (.tup [rI (kindV b off), rB (kindB b off)]) := by
 have ht := type_c b
 refine pc_of rfl rfl ?_
 refine runE mixed fi34 ?_
 refine callI_pure ht ?_
 clear ht
 have hk : kindV b off = (if typB b then typN b else 0) - off := rfl
 have hlt := (b.getD 0 0).toNat_lt
 have hn : typN b = ((b.getD 0 0).toNat : Int) - 96 := rfl
 have hw : IntKind.i64.wrap ((if typB b then typN b else 0) - off) = kindV b off := by rw [hk]; exact wrapi (by split <;> omega)
 have hd : kindB b off = (typB b && (decide (b.length ≤ 65536) && vKind (kindV b off))) := rfl
 rw [hd]
 clear hd hk hn
 refine run_sound mixed 600 _ ?_
 with_reducible refine sx1 hw ?_
 cases hb : typB b with
 | false =>
  exact ⟨fun h => absurd h (by decide), fun _ => rfl⟩
 | true =>
  refine ⟨fun _ => ⟨fun h => callI_pure (vkind_c _) ?_, fun h => ?_⟩, fun h => absurd rfl h⟩
  · refine goE mixed ?_
    rw [decide_eq_true (show b.length ≤ 65536 by omega)]; rfl
  · rw [decide_eq_false (show ¬ b.length ≤ 65536 by omega)]; rfl
end Go.Proofs.YthmoognbccfpiaaGreatDoor

/- Contracts: reading a key, with the recovery. -/
namespace Go.Proofs.YthmoognbccfpiaaGreatDoor
open Go Go.Sx Go.Proofs
set_option maxRecDepth 100000
set_option maxHeartbeats 4000000
set_option linter.unusedSimpArgs false

def ErrP {α : Type} (p : PR α) : Prop := ∀ r e, p r = .error e → e ≠ 0
theorem errP_rd {α : Type} {tag : UInt8} {dec : List UInt8 → Option α} : ErrP (rdP tag dec) := fun _ _ h => rdP_ne h
theorem errP_in {α : Type} {tag : UInt8} {p : PR α} (hp : ErrP p) : ErrP (inP tag p) := fun r e h => by
 rcases inP_cases (tag := tag) (p := p) (r := r) with ⟨h1, e'⟩ | ⟨_, e1, h2, e'⟩ | ⟨_, _, _, _, _, e'⟩ | ⟨_, _, _, _, _, e'⟩ <;> rw [e'] at h <;> cases h
 · exact h1
 · exact hp _ _ h2
 · decide
theorem errP_need {α : Type} {n : Nat} {p : PR α} (hp : ErrP p) : ErrP (needP n p) := fun r e h => by
 cases hb : nextB n r with
 | false =>
  rw [needP_no hb] at h
  split at h <;> cases h <;> decide
 | true => rw [needP_in hb] at h; exact errP_in hp r e h
theorem errP_bind {α β : Type} {p : PR α} {f : α → PR β} (hp : ErrP p) (hf : ∀ v, ErrP (f v)) : ErrP (bindP p f) := fun r e h => by
 unfold bindP at h
 cases h1 : p r with
 | error e1 => rw [h1] at h; cases h; exact hp r _ h1
 | ok y =>
  obtain ⟨u, k⟩ := y
  rw [h1] at h
  simp only at h
  cases h2 : f u (r.drop k) with
  | error e2 => rw [h2] at h; cases h; exact hf u _ _ h2
  | ok z => obtain ⟨w, l⟩ := z; rw [h2] at h; cases h
theorem errP_ret {α : Type} {v : α} : ErrP (retP v) := fun _ _ h => by cases h
theorem keyP_ne : ErrP keyP := errP_in (errP_bind (errP_need errP_rd) fun _ => errP_bind (errP_need errP_rd) fun _ => errP_bind (errP_need errP_rd) fun _ => errP_ret)
def EffR (P : Program) {α : Type} (f : FuncId) (args : List SV) (b : List UInt8) (n : Nat) (res : α → SV) (z : SV) : Except Nat (α × Nat) → Prop
 | .ok (v, k) => PE P f args [rdr b n] (.ret (.tup [res v, rI 0])) [rdr b (n + k)]
 | .error e => PE P f args [rdr b n] (.ret (.tup [z, rI e])) [rdr b n]
theorem effR_ok {P : Program} {α : Type} {f : FuncId} {args : List SV} {b : List UInt8} {n : Nat} {res : α → SV} {z : SV} {x : Except Nat (α × Nat)} {v : α} {k : Nat} (h : EffR P f args b n res z x) (hx : x = .ok (v, k)) : PE P f args [rdr b n] (.ret (.tup [res v, rI 0])) [rdr b (n + k)] := by rw [hx] at h; exact h
theorem effR_er {P : Program} {α : Type} {f : FuncId} {args : List SV} {b : List UInt8} {n : Nat} {res : α → SV} {z : SV} {x : Except Nat (α × Nat)} {e : Nat} (h : EffR P f args b n res z x) (hx : x = .error e) : PE P f args [rdr b n] (.ret (.tup [z, rI e])) [rdr b n] := by rw [hx] at h; exact h
abbrev zKey : SV := .agg [rI 0, rI 0, .isl .u8 []]
end Go.Proofs.YthmoognbccfpiaaGreatDoor

/- The plain law of reading: names. -/
namespace Go.Proofs.YthmoognbccfpiaaGreatDoor
open Go Go.Sx Go.Proofs
set_option maxRecDepth 100000
set_option maxHeartbeats 4000000
set_option linter.unusedSimpArgs false

def atP {α : Type} (p : PR α) (l : List UInt8) : PR α := fun _ => match p l with
 | .ok (x, _) => .ok (x, 0)
 | .error e => .error e
def strsP (l : List UInt8) : PR (List ByteArray) := atP (listP strP l.length) l
def nameIn : PR Prin := bindP (needP 0 (rdP 48 decOct)) fun l => bindP (strsP l) fun xs => bindP (needP 1 strP) fun t => retP ((xs, t) : Prin)
def chkP {α : Type} (q : α → Bool) : Except Nat (α × Nat) → Except Nat (α × Nat)
 | .ok (v, k) => if q v = true then .ok (v, k) else .error 6
 | .error e => .error e
def nameP : PR Prin := fun r => chkP vPrin (inP 48 nameIn r)
theorem flat_ge {α : Type} (f : α → List UInt8) : ∀ l : List α, (∀ x ∈ l, f x ≠ []) → l.length ≤ (l.map f).flatten.length
 | [], _ => by simp
 | x :: l, h => by
  have h1 := List.length_pos_iff.2 (h x (by simp))
  have h2 := flat_ge f l fun y hy => h y (by simp [hy])
  simp only [List.map_cons, List.flatten_cons, List.length_append, List.length_cons]
  omega
def strE (s : ByteArray) : List UInt8 := elemS 27 [s.data.toList]
theorem strE_len (s : ByteArray) : (strE s).length ≤ s.size + 5 := by
 have := elemS_len 27 [s.data.toList]
 have hl : s.data.toList.length = s.size := by simp
 simp only [List.flatten_cons, List.flatten_nil, List.append_nil] at this
 unfold strE; omega
theorem strE_ne {s : ByteArray} (h : s.size ≤ 16777215) : strE s ≠ [] := by
 have hl : s.data.toList.length = s.size := by simp
 unfold strE
 rw [elemS_ok (by omega)]; exact tlv_ne
theorem nameIn_at (xs : List ByteArray) (t : ByteArray) (hn : xs.length ≤ 16) (hx : ∀ x ∈ xs, x.size ≤ 65536) (ht : t.size ≤ 65536) :
 (sufS [elemS 48 (strsN xs xs.length), strE t] 0 2).length ≤ 1200000 ∧ nameIn (sufS [elemS 48 (strsN xs xs.length), strE t] 0 2) = .ok ((xs, t), (sufS [elemS 48 (strsN xs xs.length), strE t] 0 2).length) := by
 have e0 : strsN xs xs.length = xs.map strE := by unfold strsN strE; rw [List.take_length]
 have hb : (xs.map strE).flatten.length ≤ 1048700 := by
  have := flat_len strE 65541 xs fun x hx' => by
   have := strE_len x
   have := hx x hx'
   omega
  have h4 : 65541 * xs.length ≤ 65541 * 16 := Nat.mul_le_mul_left _ hn
  omega
 have e1 : elemS 48 (strsN xs xs.length) = tlv 48 (xs.map strE).flatten := by rw [e0, elemS_flat (by omega)]
 have hF := flat_ge strE xs fun x hx' => strE_ne (by have := hx x hx'; omega)
 have l1 := strE_len t
 have l0 : (elemS 48 (strsN xs xs.length)).length ≤ 1048705 := by
  have := elemS_len 48 (strsN xs xs.length)
  rw [e0] at this ⊢
  omega
 have hs := sufS_le (l := [elemS 48 (strsN xs xs.length), strE t]) 2 0
 have hs' : (sufS [elemS 48 (strsN xs xs.length), strE t] 0 2).length ≤ 1200000 := by
  refine Nat.le_trans hs ?_
  show (elemS 48 (strsN xs xs.length)).length + 5 + ((strE t).length + 5 + 0) ≤ _
  omega
 refine ⟨hs', ?_⟩
 have hL : ∀ j, (([elemS 48 (strsN xs xs.length), strE t] : List (List UInt8)).getD j []).length ≤ 16777215 := fun j => by
  match j with
  | 0 => show (elemS 48 (strsN xs xs.length)).length ≤ _; omega
  | 1 => show (strE t).length ≤ _; omega
  | j + 2 => exact Nat.zero_le _
 have q0 : rdP 48 decOct (elemS 48 (strsN xs xs.length)) = .ok ((xs.map strE).flatten, (elemS 48 (strsN xs xs.length)).length) := by
  rw [e1]
  exact full (rdP_tlv (by omega) rfl)
 have n0 : elemS 48 (strsN xs xs.length) ≠ [] := by rw [e1]; exact tlv_ne
 have q1 : listP strP (xs.map strE).flatten.length (xs.map strE).flatten = .ok (xs, (xs.map strE).flatten.length) := listP_ok xs _ hF fun x hx' => ⟨strE_ne (by have := hx x hx'; omega), strP_ok (by have := hx x hx'; omega)⟩
 have q1' : ∀ r, strsP (xs.map strE).flatten r = .ok (xs, 0) := fun r => by unfold strsP atP; rw [q1]
 have q2 : strP (strE t) = .ok (t, (strE t).length) := full (strP_ok (by omega))
 have n2 : strE t ≠ [] := strE_ne (by omega)
 have g := bindP_ok (f := fun l => bindP (strsP l) fun xs => bindP (needP 1 strP) fun t => retP ((xs, t) : Prin)) (need_suf (l := [elemS 48 (strsN xs xs.length), strE t]) (n := 0) (k := 1) hL (by omega) n0 q0)
  (bindP_ok (p := strsP (xs.map strE).flatten) (f := fun xs => bindP (needP 1 strP) fun t => retP ((xs, t) : Prin)) (r' := sufS [elemS 48 (strsN xs xs.length), strE t] 1 1) ⟨q1' _, List.drop_zero⟩
   (bindP_ok (f := fun t => retP ((xs, t) : Prin)) (need_suf (l := [elemS 48 (strsN xs xs.length), strE t]) (n := 1) (k := 0) hL (by omega) n2 q2) rfl))
 unfold nameIn
 rw [g]
 congr 2
 rw [sufS_succ, sufS_succ]
 simp only [sufS, List.range'_zero, List.map_nil, List.flatten_nil, List.append_nil, List.length_append, Nat.zero_add, Nat.reduceAdd]
 omega
theorem nameP_at (xs : List ByteArray) (t : ByteArray) (hn : xs.length ≤ 16) (hx : ∀ x ∈ xs, x.size ≤ 65536) (ht : t.size ≤ 65536) (hv : vPrin (xs, t) = true) :
 (∀ r : List UInt8, nameP (prinS (xs, t) ++ r) = .ok ((xs, t), (prinS (xs, t)).length)) ∧ (prinS (xs, t)).length ≤ 1200010 ∧ prinS (xs, t) ≠ [] := by
 obtain ⟨h1, h2⟩ := nameIn_at xs t hn hx ht
 have hS : prinS (xs, t) = tlv 48 (sufS [elemS 48 (strsN xs xs.length), strE t] 0 2) := by
  show elemS 48 [wrapS 160 0 (elemS 48 (strsN xs xs.length)), wrapS 160 1 (strE t)] = _
  have e : ([wrapS 160 0 (elemS 48 (strsN xs xs.length)), wrapS 160 1 (strE t)] : List (List UInt8)).flatten = sufS [elemS 48 (strsN xs xs.length), strE t] 0 2 := by
   rw [sufS_succ, sufS_succ]
   simp [sufS]
  rw [elemS_flat (by rw [e]; omega), e]
 rw [hS]
 refine ⟨fun r => ?_, ?_, tlv_ne⟩
 · unfold nameP
   rw [inP_tlv (by omega) h2 r]
   simp only [chkP]
   rw [if_pos hv]
 · rw [tlv_length]
   have := lenS_len (sufS [elemS 48 (strsN xs xs.length), strE t] 0 2).length
   omega
end Go.Proofs.YthmoognbccfpiaaGreatDoor

/- Contracts: reading names: the pieces. -/
namespace Go.Proofs.YthmoognbccfpiaaGreatDoor
open Go Go.Sx Go.Proofs
set_option maxRecDepth 100000
set_option maxHeartbeats 4000000
set_option linter.unusedSimpArgs false

def FR (i : Nat) (b : List UInt8) (n : Nat) : Except Nat (List UInt8 × Nat) → Prop
 | .ok (l, k) => PE Tryz.prog 212 [.ptr 0 0, rI i, .fn 176 [] []] [rdr b n] (.ret (.ptr 2 0)) [rdr b (n + k), .dead, rdr l 0]
 | .error e => PE Tryz.prog 212 [.ptr 0 0, rI i, .fn 176 [] []] [rdr b n] (.pan (errV e)) [.dead]
theorem frdr_c (i : Nat) (hi : i ≤ 30) (b : List UInt8) (n : Nat) (hn : n ≤ b.length) (hb : b.length ≤ 1099511627776) : FR i b n (needP i (rdP 48 decOct) (b.drop n)) := by
 cases h : nextB i (b.drop n) with
 | false =>
  rw [needP_no h, List.length_drop]
  have hs := rtag_no i hi b n hn h
  have hl := left_c b n hn
  generalize b.length - n = q at *
  refine pe_seal (by simp) ?_
  refine runE mixed fi212 ?_
  refine effE mixed [0] (hs) ?_
  refine effE mixed [0] (hl) ?_
  by_cases hq : q = 0
  · simp [hq]
  · simp [hq]
 | true =>
  rw [needP_in h]
  by_cases h1 : takeE (tagB i) (b.drop n) = 0
  · rw [inP_t h1]
    have hs := rtag_ok i hi b n hn hb h h1
    have hc := tkC_le (n := n) hb
    generalize takeC (b.drop n) = c at *
    generalize takeN (b.drop n) = N at *
    by_cases h2 : takeE 48 c = 0
    · have hx : rdP 48 decOct c = .ok (takeC c, takeN c) := by unfold rdP; rw [if_pos h2]; rfl
      rw [hx]
      have hr := rseq_ok c 0 (Nat.zero_le _) hc (by rw [List.drop_zero]; exact h2)
      rw [List.drop_zero, Nat.zero_add] at hr
      have hm := takeN_le h2
      generalize takeC c = l at *
      generalize takeN c = m at *
      have hl := left_c c m hm
      simp only [closeP]
      by_cases hml : m < c.length
      · rw [if_pos hml]
        refine pe_seal (by simp) ?_
        refine runE mixed fi212 ?_
        refine effE mixed [0] (hs) ?_
        refine effE mixed [1] (hr) ?_
        refine effE mixed [2] (must_nrdr l 0) ?_
        refine effE mixed [1] (hl) ?_
        exact ⟨fun _ => rfl, fun q => absurd (by omega) q⟩
      · rw [if_neg hml]
        refine pe_seal (by simp) ?_
        refine runE mixed fi212 ?_
        refine effE mixed [0] (hs) ?_
        refine effE mixed [1] (hr) ?_
        refine effE mixed [2] (must_nrdr l 0) ?_
        refine effE mixed [1] (hl) ?_
        exact ⟨fun q => absurd q (by omega), fun _ => trivial⟩
    · have hx : rdP 48 decOct c = .error (takeE 48 c) := by unfold rdP; rw [if_neg h2]
      rw [hx]
      have hr := rseq_er c 0 (Nat.zero_le _) hc (by rw [List.drop_zero]; exact h2)
      rw [List.drop_zero] at hr
      generalize takeE 48 c = e at *
      refine pe_seal (by simp) ?_
      refine runE mixed fi212 ?_
      refine effE mixed [0] (hs) ?_
      refine effE mixed [1] (hr) ?_
      refine effP [] (must_er_nrdr e h2) ?_; trivial
  · rw [inP_f h1]
    have hs := rtag_er i hi b n hn hb h h1
    generalize takeE (tagB i) (b.drop n) = e at *
    refine pe_seal (by simp) ?_
    refine runE mixed fi212 ?_
    refine effE mixed [0] (hs) ?_
    exact ⟨fun _ => trivial, fun q => absurd (by omega) h1⟩
theorem rcopy_c (b : List UInt8) (n : Nat) : PE Tryz.prog 209 [.ptr 0 0] [rdr b n] (.ret (.ptr 1 0)) [rdr b n, rdr b n] := by
 refine pe_seal (by simp) ?_
 refine runE mixed fi209 ?_; trivial
theorem dpanN_c (b : List UInt8) (n m e : Nat) (T2 T3 T4 T5 : TypeId) (x y : SV) (z : Value) (R : List SObj) (K : List SObj → Prop)
 (h : K ([rdr b n, .cells T2 [.ptr 0 0], .cells T3 [.raw (.slice none 0 0), rS ⟨#[]⟩], .cells T4 [rI e], rdr b n, .cells T5 [.ptr 4 0]] ++ R)) :
 DCall Tryz.prog 210 [.ptr 5 0, .ptr 1 0, .ptr 2 0, .ptr 3 0] (some (errV e)) ([rdr b m, .cells T2 [.ptr 0 0], .cells T3 [x, y], .cells T4 [.raw z], rdr b n, .cells T5 [.ptr 4 0]] ++ R) K := by
 refine dc_ri fi210 ?_
 refine run_sound mixed 13 _ ?_
 with_reducible refine sxaE ?_
 refine si_drw [1, 4, 5] mixed ?_
 refine goaE mixed ?_
 exact h
end Go.Proofs.YthmoognbccfpiaaGreatDoor

/- Contracts: reading names. -/
namespace Go.Proofs.YthmoognbccfpiaaGreatDoor
open Go Go.Sx Go.Proofs
set_option maxRecDepth 100000
set_option maxHeartbeats 4000000
set_option linter.unusedSimpArgs false

abbrev zPrin : SV := .agg [.isl .str [], rS ⟨#[]⟩]
def rO {α : Type} (res : α → SV) (z : SV) : Except Nat (α × Nat) → Out
 | .ok (v, _) => .ret (.tup [res v, rI 0])
 | .error e => .ret (.tup [z, rI e])
def rH {α : Type} (b : List UInt8) (n : Nat) : Except Nat (α × Nat) → List SObj
 | .ok (_, k) => [rdr b (n + k)]
 | .error _ => [rdr b n]
attribute [go_sem] rO rH
theorem effR_of {P : Program} {α : Type} {f : FuncId} {args : List SV} {b : List UInt8} {n : Nat} {res : α → SV} {z : SV} {x : Except Nat (α × Nat)} (h : VC P f args [rdr b n] (SealO (rO res z x) (rH b n x))) : EffR P f args b n res z x := by
 cases x with
 | error e => exact pe_seal (by simp [rH]) h
 | ok y => exact pe_seal (by simp [rH]) h
theorem read_er (b : List UInt8) (n : Nat) (hn : n ≤ b.length) (hb : b.length ≤ 1099511627776) (h : takeE 48 (b.drop n) ≠ 0) :
 EffR Tryz.prog 160 [.ptr 0 0] b n (fun p : Prin => .agg (PrinT.cells p)) zPrin (nameP (b.drop n)) := by
 have hs := rseq_er b n hn hb h
 have he : nameP (b.drop n) = .error (takeE 48 (b.drop n)) := by unfold nameP; rw [inP_f h]; rfl
 rw [he]
 clear he
 generalize takeE 48 (b.drop n) = e at *
 refine pe_seal (by simp) ?_
 refine defE mixed fi160 ?_
 refine effE mixed [0] (rcopy_c b n) ?_
 refine goE mixed ?_
 refine effE mixed [0] (hs) ?_
 refine effP [] (must_er_nrdr e h) ?_
 refine ⟨by simp, dpanN_c b n n e _ _ _ _ _ _ _ [] _ ?_⟩
 with_reducible refine sxE ?_; trivial
end Go.Proofs.YthmoognbccfpiaaGreatDoor

/- Contracts: reading names that begin with a sequence. -/
namespace Go.Proofs.YthmoognbccfpiaaGreatDoor
open Go Go.Sx Go.Proofs
set_option maxRecDepth 100000
set_option maxHeartbeats 4000000
set_option linter.unusedSimpArgs false

theorem strsP_er {β : Type} {l r : List UInt8} {f : List ByteArray → PR β} {e : Nat} (h : listP strP l.length l = .error e) : bindP (strsP l) f r = .error e := by unfold bindP strsP atP; rw [h]
theorem strsP_ok {β : Type} {l r : List UInt8} {f : List ByteArray → PR β} {xs : List ByteArray} {m : Nat} (h : listP strP l.length l = .ok (xs, m)) : bindP (strsP l) f r = shiftP 0 (f xs r) := by
 unfold bindP strsP atP
 rw [h]
 simp only [List.drop_zero]
 cases f xs r with
 | error e => rfl
 | ok y => rfl
theorem shift_sh {α : Type} {j k : Nat} {x : Except Nat (α × Nat)} : shiftP j (shiftP k x) = shiftP (j + k) x := by
 cases x with
 | error e => rfl
 | ok y => obtain ⟨u, m⟩ := y; simp only [shiftP, Nat.add_assoc]
theorem dretN_c (H : List SObj) (K : List SObj → Prop) (h : ∀ G, K (H ++ G)) : DCall Tryz.prog 210 [.ptr 5 0, .ptr 1 0, .ptr 2 0, .ptr 3 0] none H K := by
 refine recE mixed fi210 ?_
 simpa using h []
theorem read_ok (b : List UInt8) (n : Nat) (hn : n ≤ b.length) (hb : b.length ≤ 1099511627776) (h : takeE 48 (b.drop n) = 0) :
 EffR Tryz.prog 160 [.ptr 0 0] b n (fun p : Prin => .agg (PrinT.cells p)) zPrin (nameP (b.drop n)) := by
 have hs := rseq_ok b n hn hb h
 have hc := tkC_le (n := n) hb
 have he : nameP (b.drop n) = chkP vPrin (closeP (takeC (b.drop n)).length (takeN (b.drop n)) (nameIn (takeC (b.drop n)))) := by unfold nameP; rw [inP_t h]
 generalize nameP (b.drop n) = Y at *
 generalize takeC (b.drop n) = c at *
 generalize takeN (b.drop n) = N at *
 refine effR_of ?_
 unfold nameIn at he
 have f0 := frdr_c 0 (by omega) c 0 (Nat.zero_le _) hc
 rw [List.drop_zero] at f0
 refine defE mixed fi160 ?_
 refine effE mixed [0] (rcopy_c b n) ?_
 refine goE mixed ?_
 refine effE mixed [0] (hs) ?_
 refine effE mixed [6] (must_nrdr c 0) ?_
 cases h1 : needP 0 (rdP 48 decOct) c with
 | error e =>
  rw [bindP_er h1] at he
  subst he
  rw [h1] at f0
  have f0' : PE Tryz.prog 212 [.ptr 0 0, rI (0 : Nat), .fn 176 [] []] [rdr c 0] (.pan (errV e)) [.dead] := f0
  simp only [closeP, chkP]
  refine effP [6] (f0') ?_
  refine ⟨by simp, dpanN_c b n _ e _ _ _ _ _ _ _ [_] _ ?_⟩
  with_reducible refine sxE ?_; trivial
 | ok x =>
  obtain ⟨l, k⟩ := x
  rw [bindP_s0 h1] at he
  have hk := needP_fits _ _ _ h1
  rw [h1] at f0
  have f0' : PE Tryz.prog 212 [.ptr 0 0, rI (0 : Nat), .fn 176 [] []] [rdr c 0] (.ret (.ptr 2 0)) [rdr c (0 + k), .dead, rdr l 0] := f0
  rw [Nat.zero_add] at f0'
  refine effE mixed [6] (f0') ?_
  have hlb : l.length ≤ 1099511627776 := (okP_need (okP_rd (Q := fun v : List UInt8 => v.length ≤ 1099511627776) fun c v hc hd => by unfold decOct at hd; cases hd; exact hc)) c l k hc h1
  generalize hX : listP strP l.length l = X
  refine si_nilcell 2 0 .str rfl rfl rfl ?_
  with_reducible refine sxE ?_
  refine si_loopX (ι := Nat × List ByteArray × List SObj) (fun s => []) (fun s => [rdr b (n + N), .cells 77 [.ptr 0 0], .cells 26 [.bld (s.2.2.length + 9) .str s.2.1.length, rS ⟨#[]⟩], .cells 36 [rI 0], rdr b n, .cells 77 [.ptr 4 0], rdr c k, .dead, rdr l s.1] ++ s.2.2 ++ [.row .str s.2.1]) (fun s => l.length - s.1) (fun s => s.2.1.length ≤ s.1 ∧ s.1 ≤ l.length ∧ (∀ x ∈ s.2.1, x.size ≤ 1099511627776) ∧ X = tailP s.2.1 s.1 (listP strP (l.length - s.2.1.length) (l.drop s.1))) (0, [], []) ⟨Nat.le_refl _, Nat.zero_le _, by simp, ?_⟩ rfl ?_ ?_
  · rw [List.drop_zero, List.length_nil, Nat.sub_zero, tailP_id]; exact hX.symm
  · with_reducible refine sxE ?_; trivial
  rintro ⟨m, xs, G⟩ ⟨i1, i2, i4, i3⟩
  dsimp only at i1 i2 i3 i4
  have hleft := left_c l m i2
  refine goaE mixed ?_
  refine callI_eff [8] hleft rfl (by decide) ⟨rfl, rfl, trivial⟩ rfl rfl ?_
  simp only [afterO, Out.ren, SV.ren, mgA, sig, SObj.ren, SV.renL, List.cons_append, List.nil_append, List.append_assoc, List.set_cons_zero, List.set_cons_succ, List.set, List.map, List.append_nil]
  refine run_sound mixed 5 _ ?_
  with_reducible refine sxaE ?_
  refine ⟨fun hp0 => ?_, fun hp0 => ?_⟩
  · have hml : m < l.length := by omega
    refine si_drwP [2] mixed ?_
    refine goaE mixed ?_
    cases hp : strP (l.drop m) with
    | error e =>
     have hr := rstr_er l m i2 hlb hp
     have hXe := i3.trans (listP_bad hml (by omega) hp)
     rw [strsP_er (hX.trans hXe)] at he
     subst he
     simp only [shiftP, closeP, chkP]
     refine callR_eff [8] hr rfl (by decide) ⟨rfl, rfl, trivial⟩ rfl rfl ?_ ?_
     · simp (maxSteps := 3000000) only [mgA, sig, sameG_cons, sameG_nil, List.append_assoc, getA, getA0, setA, setA0, List.length_append, Nat.add_assoc, go_sem, ↓zA, ↓reduceIte, ↓reduceDIte, reduceCtorEq, Nat.reduceAdd, Nat.reduceSub, Nat.reduceLeDiff, Nat.reduceLT, Nat.reduceEqDiff, Nat.reduceBEq, Nat.reduceMul, Int.reduceToNat, Int.reduceEq, Int.reduceLT, Int.reduceLE] <;> try simp only [zB]
     · simp only [afterR, Out.ren, SV.ren, mgA, sig, SObj.ren, SV.renL, List.cons_append, List.nil_append, List.append_assoc, List.set_cons_zero, List.set_cons_succ, List.set, List.map, List.append_nil]
       refine goaE mixed ?_
       refine callR_eff [] (must_er_nstr (.string ⟨#[]⟩) e (rdP_ne hp)) rfl (by decide) trivial rfl rfl ?_ ?_
       · simp (maxSteps := 3000000) only [mgA, sig, sameG_cons, sameG_nil, List.append_assoc, getA, getA0, setA, setA0, List.length_append, Nat.add_assoc, go_sem, ↓zA, ↓reduceIte, ↓reduceDIte, reduceCtorEq, Nat.reduceAdd, Nat.reduceSub, Nat.reduceLeDiff, Nat.reduceLT, Nat.reduceEqDiff, Nat.reduceBEq, Nat.reduceMul, Int.reduceToNat, Int.reduceEq, Int.reduceLT, Int.reduceLE] <;> try simp only [zB]
       · simp only [afterR, Out.ren, SV.ren, mgA, sig, SObj.ren, SV.renL, List.cons_append, List.nil_append, List.append_assoc, List.set_cons_zero, List.set_cons_succ, List.set, List.map, List.append_nil]
         refine cutQ_p ?_
         with_reducible refine sxaE ?_
         refine ⟨by simp, ?_⟩
         have hpan := fun K hK => dpanN_c b n (n + N) e 77 26 36 77 (.bld (G.length + 9) .str xs.length) (rS ⟨#[]⟩) (.int .i64 0) ([rdr c k, .dead, rdr l m] ++ G ++ [.row .str xs]) K hK
         simp only [List.cons_append, List.nil_append, List.append_assoc] at hpan
         refine hpan _ ?_
         with_reducible refine sxaE ?_; trivial
    | ok y =>
     obtain ⟨v, q⟩ := y
     have hr := rstr_ok l m i2 hlb hp
     have hfit := rdP_le hp
     have hq2 := takeN_pos (rdP_ok hp).1
     have hq : 2 ≤ q := by rw [(rdP_ok hp).2.2]; exact hq2
     have hvs := okP_str (l.drop m) v q (by rw [List.length_drop]; omega) hp
     rw [List.length_drop] at hfit
     have hXs := i3.trans (listP_step hml (by omega) hp)
     refine callR_eff [8] hr rfl (by decide) ⟨rfl, rfl, trivial⟩ rfl rfl ?_ ?_
     · simp (maxSteps := 3000000) only [mgA, sig, sameG_cons, sameG_nil, List.append_assoc, getA, getA0, setA, setA0, List.length_append, Nat.add_assoc, go_sem, ↓zA, ↓reduceIte, ↓reduceDIte, reduceCtorEq, Nat.reduceAdd, Nat.reduceSub, Nat.reduceLeDiff, Nat.reduceLT, Nat.reduceEqDiff, Nat.reduceBEq, Nat.reduceMul, Int.reduceToNat, Int.reduceEq, Int.reduceLT, Int.reduceLE] <;> try simp only [zB]
     · simp only [afterR, Out.ren, SV.ren, mgA, sig, SObj.ren, SV.renL, List.cons_append, List.nil_append, List.append_assoc, List.set_cons_zero, List.set_cons_succ, List.set, List.map, List.append_nil]
       refine goaE mixed ?_
       refine callR_pure (must_nstr _) ?_
       refine goaE mixed ?_
       refine ⟨by show v.size ≤ _; omega, ⟨by omega, by omega⟩, cutQ_n ?_⟩
       refine goaE mixed ?_
       refine ⟨(m + q, xs ++ [v], G ++ [.dead, .row .str [v]]), ⟨by simp; omega, by dsimp only; omega, fun x hx => ?_, ?_⟩, by dsimp only; omega, ?_, ?_⟩
       · rcases List.mem_append.1 hx with hx | hx
         · exact i4 x hx
         · rw [List.mem_singleton] at hx; subst hx; exact hvs
       · dsimp only
         rw [hXs, List.length_append, List.length_singleton, Nat.sub_sub]
       · simp
       · with_reducible refine sxaE ?_; trivial
  · have hXe := i3.trans (listP_end (by omega))
    rw [strsP_ok (hX.trans hXe), shift_sh, Nat.add_zero] at he
    clear hX hXe i3
    refine si_compact (ty := .str) (xs := xs) [rdr b (n + N), .cells 77 [.ptr 0 0], .cells 26 [.bld (G.length + 9) .str xs.length, rS ⟨#[]⟩], .cells 36 [rI 0], rdr b n, .cells 77 [.ptr 4 0], rdr c k, .dead, rdr l m] [rdr b (n + N), .cells 77 [.ptr 0 0], .cells 26 [.bld 9 .str xs.length, rS ⟨#[]⟩], .cells 36 [rI 0], rdr b n, .cells 77 [.ptr 4 0], rdr c k, .dead, rdr l m] G rfl (by simp) (by simp) ?_ (by rfl) ?_ ?_ ?_
    · simp [SObj.ren, SV.ren, SV.renL, shift, Nat.add_comm]
    · rfl
    · with_reducible refine sxE ?_; trivial
    with_reducible refine sxE ?_
    have hxs : xs.length ≤ 1099511627776 := by omega
    refine si_freeze 9 rfl rfl (by omega) ?_ ?_ ?_
    · with_reducible refine sxE ?_
      exact Nat.le_refl _
    · with_reducible refine sxE ?_; trivial
    with_reducible refine sxE ?_
    rw [List.take_of_length_le (Nat.le_refl _)]
    have hf1 := fstr_c 1 (by omega) c k hk hc
    cases h2 : needP 1 strP (c.drop k) with
    | error e =>
     rw [bindP_er h2] at he
     subst he
     have hf1' := effX_er hf1 h2
     simp only [shiftP, closeP, chkP]
     refine goE mixed ?_
     refine effP [6] (hf1') ?_
     refine ⟨by simp, ?_⟩
     have hpan := fun K hK => dpanN_c b n (n + N) e 77 26 36 77 (.isl .str xs) (rS ⟨#[]⟩) (.int .i64 0) [.dead, .dead, rdr l m, .dead] K hK
     simp only [List.cons_append, List.nil_append, List.append_assoc] at hpan
     refine hpan _ ?_
     with_reducible refine sxE ?_; trivial
    | ok y =>
     obtain ⟨t, q⟩ := y
     rw [bindP_st h2] at he
     have hf1' := effX_ok hf1 h2
     have hkq := fits_at needP_fits hk h2
     have hts := okP_need okP_str (c.drop k) t q (by rw [List.length_drop]; omega) h2
     have hlq := left_c c (k + q) hkq
     simp only [shiftP, retP, closeP] at he
     refine goE mixed ?_
     refine effE mixed [6] (hf1') ?_
     refine effE mixed [6] (hlq) ?_
     refine ⟨fun hle => callI_pure (nvalid_c (xs, t) ⟨⟨by show xs.length ≤ _; omega, fun x hx => by have := i4 x hx; show x.size ≤ _; omega⟩, by show t.size ≤ _; omega⟩) ?_, fun hgt => ⟨by simp, ?_⟩⟩
     · rw [if_neg (by omega)] at he
       simp only [chkP] at he
       cases hv : vPrin (xs, t) with
       | true =>
        rw [if_pos hv] at he
        subst he
        refine goE mixed ?_
        refine dretN_c _ _ fun G => ?_
        with_reducible refine sxE ?_; trivial
       | false =>
        rw [if_neg (by rw [hv]; decide)] at he
        subst he
        refine goE mixed ?_
        refine ⟨by simp, ?_⟩
        have hpan := fun K hK => dpanN_c b n (n + N) 6 77 26 36 77 (.isl .str xs) (rS t) (.int .i64 0) [rdr c (k + q), .dead, rdr l m, .dead] K hK
        simp only [List.cons_append, List.nil_append, List.append_assoc] at hpan
        refine hpan _ ?_
        with_reducible refine sxE ?_; trivial
     · rw [if_pos (by omega)] at he
       simp only [chkP] at he
       subst he
       have hpan := fun K hK => dpanN_c b n (n + N) 6 77 26 36 77 (.isl .str xs) (rS t) (.int .i64 0) [rdr c (k + q), .dead, rdr l m, .dead] K hK
       simp only [List.cons_append, List.nil_append, List.append_assoc] at hpan
       refine hpan _ ?_
       with_reducible refine sxE ?_; trivial
end Go.Proofs.YthmoognbccfpiaaGreatDoor

/- The plain law of reading: entries. -/
namespace Go.Proofs.YthmoognbccfpiaaGreatDoor
open Go Go.Sx Go.Proofs
set_option maxRecDepth 100000
set_option maxHeartbeats 4000000
set_option linter.unusedSimpArgs false

theorem bind_suf {α β : Type} {p : PR α} {f : α → PR β} {l : List (List UInt8)} {n k : Nat} {v : α} {u : β} (h : p (sufS l n (k + 1)) = .ok (v, (wrapS 160 (n : Nat) (l.getD n [])).length) ∧ (sufS l n (k + 1)).drop (wrapS 160 (n : Nat) (l.getD n [])).length = sufS l (n + 1) k)
 (h2 : f v (sufS l (n + 1) k) = .ok (u, (sufS l (n + 1) k).length)) : bindP p f (sufS l n (k + 1)) = .ok (u, (sufS l n (k + 1)).length) := by
 rw [bindP_ok h h2, sufS_succ l n k, List.length_append]
theorem vPrin_sz {p : Prin} (h : vPrin p = true) : p.1.length ≤ 4 ∧ (∀ x ∈ p.1, x.size ≤ 32) ∧ p.2.size ≤ 32 := by
 simp only [vPrin, Bool.and_eq_true, decide_eq_true_eq, realmB_at, szB, allN_iff] at h
 refine ⟨by omega, fun x hx => ?_, by omega⟩
 obtain ⟨j, hj, rfl⟩ := List.getElem_of_mem hx
 have := h.2 j hj
 rw [getD_at hj] at this
 simp only [vPart, szB, Bool.and_eq_true, decide_eq_true_eq] at this
 omega
theorem prinS_le {p : Prin} (h : vPrin p = true) : (prinS p).length ≤ 205 := by
 obtain ⟨h1, h2, h3⟩ := vPrin_sz h
 obtain ⟨xs, t⟩ := p
 have f := strsN_flat (l := xs) (k := xs.length) h1 h2
 have g1 := elemS_len 48 (strsN xs xs.length)
 have g2 := elemS_len 27 [t.data.toList]
 have g3 : t.data.toList.length = t.size := by simp
 simp only [List.flatten_cons, List.flatten_nil, List.append_nil] at g2
 have g4 := wrapS_len 160 0 (elemS 48 (strsN xs xs.length))
 have g5 := wrapS_len 160 1 (elemS 27 [t.data.toList])
 have g6 := elemS_len 48 [wrapS 160 0 (elemS 48 (strsN xs xs.length)), wrapS 160 1 (elemS 27 [t.data.toList])]
 simp only [List.flatten_cons, List.flatten_nil, List.append_nil, List.length_append] at g6
 have h3' : t.size ≤ 32 := h3
 refine Nat.le_trans g6 ?_
 omega
theorem nameP_ok {p : Prin} (h : vPrin p = true) : (∀ r : List UInt8, nameP (prinE p ++ r) = .ok (p, (prinE p).length)) ∧ (prinE p).length ≤ 205 ∧ prinE p ≠ [] := by
 have hle := prinS_le h
 obtain ⟨h1, h2, h3⟩ := vPrin_sz h
 have he : prinE p = prinS p := by unfold prinE; rw [if_pos h]
 rw [he]
 obtain ⟨xs, t⟩ := p
 have h1' : xs.length ≤ 4 := h1
 have h3' : t.size ≤ 32 := h3
 have := nameP_at xs t (by omega) (fun x hx => by have := h2 x hx; omega) (by omega) h
 exact ⟨this.1, hle, this.2.2⟩
end Go.Proofs.YthmoognbccfpiaaGreatDoor

/- The plain law of reading: what is read can be held. -/
namespace Go.Proofs.YthmoognbccfpiaaGreatDoor
open Go Go.Sx Go.Proofs
set_option maxRecDepth 100000
set_option maxHeartbeats 4000000
set_option linter.unusedSimpArgs false

theorem okP_mono {α : Type} {p : PR α} {Q Q' : α → Prop} (h : OkP p Q) (hq : ∀ v, Q v → Q' v) : OkP p Q' := fun r v m hr hx => hq v (h r v m hr hx)
theorem okP_chk {p : PR Prin} {Q : Prin → Prop} (hq : ∀ v, vPrin v = true → Q v) : OkP (fun r => chkP vPrin (p r)) Q := fun r v m _ hx => by
 have hx : chkP vPrin (p r) = .ok (v, m) := hx
 cases hp : p r with
 | error e => rw [hp] at hx; cases hx
 | ok y =>
  obtain ⟨u, k⟩ := y
  rw [hp] at hx
  simp only [chkP] at hx
  split at hx
  · cases hx; exact hq _ (by assumption)
  · cases hx
theorem prin_ok {p : Prin} (h : vPrin p = true) : PrinT.ok p := by
 obtain ⟨h1, h2, h3⟩ := vPrin_sz h
 exact ⟨⟨by omega, fun x hx => by have := h2 x hx; show x.size ≤ _; omega⟩, by show p.2.size ≤ _; omega⟩
theorem okP_name : OkP nameP PrinT.ok := okP_chk fun _ h => prin_ok h
theorem okP_oct : OkP octP (Ty.slice .u8).ok := okP_rd fun c v hc hd => by
 unfold decOct at hd; cases hd
 exact ⟨by show c.length ≤ _; omega, fun _ _ => trivial⟩
theorem okP_l {t : Ty} {p : PR t.den} (n : Nat) (hn : n ≤ 1000) (h : OkP p t.ok) : OkP (inP 48 (listP p n)) (Ty.slice t).ok := okP_in (okP_mono (okP_list h n) fun v hv => ⟨by have := hv.1; omega, hv.2⟩)
theorem nil_ok {t : Ty} : (Ty.slice t).ok ([] : List t.den) := ⟨by simp, by simp⟩
theorem okP_key : OkP keyP KeyT.ok := okP_in (okP_bind (Q1 := fun _ => True) okP_true fun _ _ => okP_bind (Q1 := fun _ => True) okP_true fun _ _ => okP_bind (okP_need okP_oct) fun _ hc => okP_ret ⟨trivial, trivial, hc⟩)
theorem estr_ok : (Ty.str).ok (⟨#[]⟩ : ByteArray) := by show (⟨#[]⟩ : ByteArray).size ≤ _; exact Nat.zero_le _
theorem errP_list {α : Type} {p : PR α} (hp : ErrP p) : ∀ n, ErrP (listP p n)
 | 0, r, e, h => by
  simp only [listP] at h
  split at h <;> cases h
  decide
 | n + 1, r, e, h => by
  simp only [listP] at h
  split at h
  · cases h
  · cases h1 : p r with
    | error e1 => rw [h1] at h; cases h; exact hp r _ h1
    | ok y =>
     obtain ⟨u, k⟩ := y
     rw [h1] at h
     simp only at h
     cases h2 : listP p n (r.drop k) with
     | error e2 => rw [h2] at h; cases h; exact errP_list hp n _ _ h2
     | ok z => obtain ⟨w, l⟩ := z; rw [h2] at h; cases h
theorem nameP_ne : ErrP nameP := fun r e h => by
 have hin : ErrP (inP 48 nameIn) := errP_in (errP_bind (errP_need errP_rd) fun l => errP_bind (fun r' e' h' => by
  unfold strsP atP at h'
  cases h1 : listP strP l.length l with
  | error e1 => rw [h1] at h'; cases h'; exact errP_list errP_rd _ _ _ h1
  | ok y => obtain ⟨u, k⟩ := y; rw [h1] at h'; cases h') fun _ => errP_bind (errP_need errP_rd) fun _ => errP_ret)
 unfold nameP at h
 cases h1 : inP 48 nameIn r with
 | error e1 => rw [h1] at h; cases h; exact hin r _ h1
 | ok y =>
  obtain ⟨u, k⟩ := y
  rw [h1] at h
  simp only [chkP] at h
  split at h <;> cases h
  decide
theorem nameP_fits : FitsP nameP := fun r v m h => by
 unfold nameP at h
 cases h1 : inP 48 nameIn r with
 | error e1 => rw [h1] at h; cases h
 | ok y =>
  obtain ⟨u, k⟩ := y
  rw [h1] at h
  simp only [chkP] at h
  split at h
  · cases h; exact inP_fits r _ _ h1
  · cases h
end Go.Proofs.YthmoognbccfpiaaGreatDoor

/- Contracts: a principal and octets of an entry read. -/
namespace Go.Proofs.YthmoognbccfpiaaGreatDoor
open Go Go.Sx Go.Proofs
set_option maxRecDepth 100000
set_option maxHeartbeats 4000000
set_option linter.unusedSimpArgs false

theorem read_c (b : List UInt8) (n : Nat) (hn : n ≤ b.length) (hb : b.length ≤ 1099511627776) :
 EffR Tryz.prog 160 [.ptr 0 0] b n (fun p : Prin => .agg (PrinT.cells p)) zPrin (nameP (b.drop n)) := by
 by_cases h : takeE 48 (b.drop n) = 0
 · exact read_ok b n hn hb h
 · exact read_er b n hn hb h
end Go.Proofs.YthmoognbccfpiaaGreatDoor

/- Contracts: reading that leaves by a panic. -/
namespace Go.Proofs.YthmoognbccfpiaaGreatDoor
open Go Go.Sx Go.Proofs
set_option maxRecDepth 100000
set_option maxHeartbeats 4000000
set_option linter.unusedSimpArgs false

@[go_sem] abbrev wrongV : SV := .iface 125 (.agg [rI 6])
theorem require_t : PC Tryz.prog 98 [.raw (.bool true)] (.tup []) := by
 refine pc_of rfl rfl ?_
 refine runE mixed fi98 ?_; trivial
theorem require_f : PE Tryz.prog 98 [.raw (.bool false)] [] (.pan wrongV) [] := by
 refine pe_seal (by simp) ?_
 refine runE mixed fi98 ?_; trivial
theorem callI_require {AQ : Ex → List SV → List SObj → Prop} {x : Bool} {d : Option Tmp} {m : IM} (h1 : x = true → SoundI Tryz.prog AQ { m with tmps := putT m.tmps d (.tup []) }) (h2 : x = false → AQ (.pan wrongV) m.tmps m.heap) :
 CallI Tryz.prog AQ 98 [.raw (.bool x)] d m := by
 cases x with
 | true => exact callI_pure require_t (h1 rfl)
 | false =>
  refine callI_eff [] require_f rfl (by decide) trivial rfl rfl ?_
  have : mgA (sig [] m.heap.length) [] [] m.heap = m.heap := by simp [mgA]
  rw [this]
  exact h2 rfl
theorem take_int (v : Value) : PC Tryz.prog 152 [.raw v, rI 0] (.raw v) := by
 refine pc_of rfl rfl ?_
 refine runE mixed fi152 ?_
 refine callI_pure require_t ?_
 refine goE mixed ?_; trivial
theorem take_er_int (v : Value) (e : Nat) (he : e ≠ 0) : PE Tryz.prog 152 [.raw v, rI e] [] (.pan wrongV) [] := by
 refine pe_seal (by simp) ?_
 refine runE mixed fi152 ?_
 refine callI_require (fun h => absurd h (by simp; omega)) fun _ => ?_
 with_reducible refine sxE ?_; trivial
theorem take_u32 (v : Value) : PC Tryz.prog 227 [.raw v, rI 0] (.raw v) := by
 refine pc_of rfl rfl ?_
 refine runE mixed fi227 ?_
 refine callI_pure require_t ?_
 refine goE mixed ?_; trivial
theorem take_er_u32 (v : Value) (e : Nat) (he : e ≠ 0) : PE Tryz.prog 227 [.raw v, rI e] [] (.pan wrongV) [] := by
 refine pe_seal (by simp) ?_
 refine runE mixed fi227 ?_
 refine callI_require (fun h => absurd h (by simp; omega)) fun _ => ?_
 with_reducible refine sxE ?_; trivial
theorem take_rdr (b : List UInt8) (n : Nat) : PE Tryz.prog 149 [.ptr 0 0, rI 0] [rdr b n] (.ret (.ptr 0 0)) [rdr b n] := by
 refine pe_seal (by simp) ?_
 refine runE mixed fi149 ?_
 refine callI_pure require_t ?_
 refine goE mixed ?_; trivial
theorem take_er_rdr (e : Nat) (he : e ≠ 0) : PE Tryz.prog 149 [.raw (.pointer none), rI e] [] (.pan wrongV) [] := by
 refine pe_seal (by simp) ?_
 refine runE mixed fi149 ?_
 refine callI_require (fun h => absurd h (by simp; omega)) fun _ => ?_
 with_reducible refine sxE ?_; trivial
theorem done_t (b : List UInt8) (n : Nat) (hn : n = b.length) : PE Tryz.prog 97 [.agg [.ptr 0 0]] [rdr b n] (.ret (.tup [])) [rdr b n] := by
 have he := end_c b n (by omega)
 rw [if_neg (by omega)] at he
 refine pe_seal (by simp) ?_
 refine runE mixed fi97 ?_
 refine effE mixed [0] (he) ?_
 refine callI_pure require_t ?_
 refine goE mixed ?_; trivial
theorem done_f (b : List UInt8) (n : Nat) (hn : n < b.length) : PE Tryz.prog 97 [.agg [.ptr 0 0]] [rdr b n] (.pan wrongV) [.dead] := by
 have he := end_c b n (by omega)
 rw [if_pos hn] at he
 refine pe_seal (by simp) ?_
 refine runE mixed fi97 ?_
 refine effE mixed [0] (he) ?_
 refine callI_require (fun h => absurd h (by simp)) fun _ => ?_
 with_reducible refine sxE ?_; trivial
end Go.Proofs.YthmoognbccfpiaaGreatDoor

