/- Contracts: reading that leaves by a panic with a number: fields, keys. -/
import Derived.Test.YtddmkgibghohkaaGreatDoorP24
import Derived.Test.YtddmkgibghohkaaGreatDoorP21
import Derived.Test.YtddmkgibghohkaaGreatDoorP19
set_option linter.unusedSimpArgs false
set_option linter.unusedVariables false
namespace Go.Proofs.YtddmkgibghohkaaGreatDoor
open Go Go.Sx Go.Proofs
set_option maxRecDepth 100000
set_option maxHeartbeats 4000000
set_option linter.unusedSimpArgs false

@[go_sem] abbrev errV (e : Int) : SV := .iface 38 (rI e)
def EffX (P : Program) {α : Type} (f : FuncId) (args : List SV) (b : List UInt8) (n : Nat) (res : α → SV) : Except Nat (α × Nat) → Prop
 | .ok (v, k) => PE P f args [rdr b n] (.ret (res v)) [rdr b (n + k)]
 | .error e => PE P f args [rdr b n] (.pan (errV e)) [.dead]
theorem effX_ok {P : Program} {α : Type} {f : FuncId} {args : List SV} {b : List UInt8} {n : Nat} {res : α → SV} {x : Except Nat (α × Nat)} {v : α} {k : Nat} (h : EffX P f args b n res x) (hx : x = .ok (v, k)) : PE P f args [rdr b n] (.ret (res v)) [rdr b (n + k)] := by rw [hx] at h; exact h
theorem effX_er {P : Program} {α : Type} {f : FuncId} {args : List SV} {b : List UInt8} {n : Nat} {res : α → SV} {x : Except Nat (α × Nat)} {e : Nat} (h : EffX P f args b n res x) (hx : x = .error e) : PE P f args [rdr b n] (.pan (errV e)) [.dead] := by rw [hx] at h; exact h
theorem must_dint (v : Value) : PC Tryz.prog 323 [.raw v, rI 0] (.raw v) := by
 refine pc_of rfl rfl ?_
 refine runE mixed fi323 ?_; trivial
theorem must_er_dint (v : Value) (e : Nat) (he : e ≠ 0) : PE Tryz.prog 323 [.raw v, rI e] [] (.pan (errV e)) [] := by
 refine pe_seal (by simp) ?_
 refine runE mixed fi323 ?_
 exact ⟨fun _ => trivial, fun h => absurd (by omega) he⟩
theorem must_dbytes (v : List UInt8) : PC Tryz.prog 324 [.isl .u8 v, rI 0] (.isl .u8 v) := by
 refine pc_of rfl rfl ?_
 refine runE mixed fi324 ?_; trivial
theorem must_er_dbytes (v : List UInt8) (e : Nat) (he : e ≠ 0) : PE Tryz.prog 324 [.isl .u8 v, rI e] [] (.pan (errV e)) [] := by
 refine pe_seal (by simp) ?_
 refine runE mixed fi324 ?_
 exact ⟨fun _ => trivial, fun h => absurd (by omega) he⟩
theorem must_nstr (v : Value) : PC Tryz.prog 259 [.raw v, rI 0] (.raw v) := by
 refine pc_of rfl rfl ?_
 refine runE mixed fi259 ?_; trivial
theorem must_er_nstr (v : Value) (e : Nat) (he : e ≠ 0) : PE Tryz.prog 259 [.raw v, rI e] [] (.pan (errV e)) [] := by
 refine pe_seal (by simp) ?_
 refine runE mixed fi259 ?_
 exact ⟨fun _ => trivial, fun h => absurd (by omega) he⟩
theorem must_drdr (b : List UInt8) (n : Nat) : PE Tryz.prog 301 [.ptr 0 0, rI 0] [rdr b n] (.ret (.ptr 0 0)) [rdr b n] := by
 refine pe_seal (by simp) ?_
 refine runE mixed fi301 ?_; trivial
theorem must_er_drdr (e : Nat) (he : e ≠ 0) : PE Tryz.prog 301 [.raw (.pointer none), rI e] [] (.pan (errV e)) [] := by
 refine pe_seal (by simp) ?_
 refine runE mixed fi301 ?_
 exact ⟨fun _ => trivial, fun h => absurd (by omega) he⟩
theorem must_nrdr (b : List UInt8) (n : Nat) : PE Tryz.prog 257 [.ptr 0 0, rI 0] [rdr b n] (.ret (.ptr 0 0)) [rdr b n] := by
 refine pe_seal (by simp) ?_
 refine runE mixed fi257 ?_; trivial
theorem must_er_nrdr (e : Nat) (he : e ≠ 0) : PE Tryz.prog 257 [.raw (.pointer none), rI e] [] (.pan (errV e)) [] := by
 refine pe_seal (by simp) ?_
 refine runE mixed fi257 ?_
 exact ⟨fun _ => trivial, fun h => absurd (by omega) he⟩
theorem dend_t (b : List UInt8) (n : Nat) (hn : n = b.length) : PE Tryz.prog 304 [.ptr 0 0] [rdr b n] (.ret (.tup [])) [rdr b n] := by
 have he := left_c b n (by omega)
 refine pe_seal (by simp) ?_
 refine runE mixed fi304 ?_
 refine effE mixed [0] (he) ?_
 exact ⟨fun q => absurd q (by omega), fun _ => trivial⟩
theorem dend_f (b : List UInt8) (n : Nat) (hn : n < b.length) : PE Tryz.prog 304 [.ptr 0 0] [rdr b n] (.pan (errV 6)) [.dead] := by
 have he := left_c b n (by omega)
 refine pe_seal (by simp) ?_
 refine runE mixed fi304 ?_
 refine effE mixed [0] (he) ?_
 exact ⟨fun _ => trivial, fun q => absurd (by omega) q⟩
theorem needP_no {α : Type} {n : Nat} {p : PR α} {r : List UInt8} (h : nextB n r = false) : needP n p r = .error (if r.length = 0 then 4 else 6) := by unfold needP; rw [h]; rfl
theorem needP_in {α : Type} {n : Nat} {p : PR α} {r : List UInt8} (h : nextB n r = true) : needP n p r = inP (tagB n) p r := by unfold needP; rw [h]; rfl
def closeP {α : Type} (l N : Nat) : Except Nat (α × Nat) → Except Nat (α × Nat)
 | .ok (v, m) => if m < l then .error 6 else .ok (v, N)
 | .error e => .error e
theorem inP_t {α : Type} {tag : UInt8} {p : PR α} {r : List UInt8} (h : takeE tag r = 0) : inP tag p r = closeP (takeC r).length (takeN r) (p (takeC r)) := by
 unfold inP allP
 rw [if_pos h]
 cases p (takeC r) with
 | error e => rfl
 | ok x =>
  obtain ⟨v, m⟩ := x
  simp only [closeP]
  by_cases hm : m < (takeC r).length <;> simp [hm]
theorem inP_f {α : Type} {tag : UInt8} {p : PR α} {r : List UInt8} (h : takeE tag r ≠ 0) : inP tag p r = .error (takeE tag r) := by
 unfold inP
 rw [if_neg h]
theorem fint_c (i : Nat) (hi : i ≤ 30) (b : List UInt8) (n : Nat) (hn : n ≤ b.length) (hb : b.length ≤ 1099511627776) : EffX Tryz.prog 302 [.ptr 0 0, rI i, .fn 145 [] []] b n (fun v => rI v) (needP i intP (b.drop n)) := by
 cases h : nextB i (b.drop n) with
 | false =>
  rw [needP_no h, List.length_drop]
  have hs := rtag_no i hi b n hn h
  have hl := left_c b n hn
  generalize b.length - n = q at *
  refine pe_seal (by simp) ?_
  refine runE mixed fi302 ?_
  refine effE mixed [0] (hs) ?_
  refine effE mixed [0] (hl) ?_
  by_cases hq : q = 0
  · simp [hq]
  · simp [hq]
 | true =>
  rw [needP_in h]
  by_cases h1 : takeE (tagB i) (b.drop n) = 0
  · rw [inP_t h1]
    have hs := rtag_ok i hi b n hn hb h h1
    have hc := tkC_le (n := n) hb
    generalize takeC (b.drop n) = c at *
    generalize takeN (b.drop n) = N at *
    cases hx : intP c with
    | error e =>
     have hr := rint_er c 0 (Nat.zero_le _) hc (by rw [List.drop_zero]; exact hx)
     refine pe_seal (by simp) ?_
     refine runE mixed fi302 ?_
     refine effE mixed [0] (hs) ?_
     refine effE mixed [1] (hr) ?_
     refine effP [] (must_er_dint (.int .i64 0) e (rdP_ne hx)) ?_; trivial
    | ok x =>
     obtain ⟨v, m⟩ := x
     have hm := rdP_fits _ _ _ hx
     have hr := rint_ok c 0 (Nat.zero_le _) hc (by rw [List.drop_zero]; exact hx)
     have hl := left_c c m hm
     rw [Nat.zero_add] at hr
     simp only [closeP]
     by_cases hml : m < c.length
     · rw [if_pos hml]
       refine pe_seal (by simp) ?_
       refine runE mixed fi302 ?_
       refine effE mixed [0] (hs) ?_
       refine effE mixed [1] (hr) ?_
       refine callI_pure (must_dint _) ?_
       refine goE mixed ?_
       refine effP [1] (dend_f c m hml) ?_
       rfl
     · rw [if_neg hml]
       refine pe_seal (by simp) ?_
       refine runE mixed fi302 ?_
       refine effE mixed [0] (hs) ?_
       refine effE mixed [1] (hr) ?_
       refine callI_pure (must_dint _) ?_
       refine goE mixed ?_
       refine effE mixed [1] (dend_t c m (by omega)) ?_; trivial
  · rw [inP_f h1]
    have hs := rtag_er i hi b n hn hb h h1
    generalize takeE (tagB i) (b.drop n) = e at *
    refine pe_seal (by simp) ?_
    refine runE mixed fi302 ?_
    refine effE mixed [0] (hs) ?_
    exact ⟨fun _ => trivial, fun q => absurd (by omega) h1⟩
theorem foct_c (i : Nat) (hi : i ≤ 30) (b : List UInt8) (n : Nat) (hn : n ≤ b.length) (hb : b.length ≤ 1099511627776) : EffX Tryz.prog 303 [.ptr 0 0, rI i, .fn 238 [] []] b n (fun v => .isl .u8 v) (needP i octP (b.drop n)) := by
 cases h : nextB i (b.drop n) with
 | false =>
  rw [needP_no h, List.length_drop]
  have hs := rtag_no i hi b n hn h
  have hl := left_c b n hn
  generalize b.length - n = q at *
  refine pe_seal (by simp) ?_
  refine runE mixed fi303 ?_
  refine effE mixed [0] (hs) ?_
  refine effE mixed [0] (hl) ?_
  by_cases hq : q = 0
  · simp [hq]
  · simp [hq]
 | true =>
  rw [needP_in h]
  by_cases h1 : takeE (tagB i) (b.drop n) = 0
  · rw [inP_t h1]
    have hs := rtag_ok i hi b n hn hb h h1
    have hc := tkC_le (n := n) hb
    generalize takeC (b.drop n) = c at *
    generalize takeN (b.drop n) = N at *
    cases hx : octP c with
    | error e =>
     have hr := roct_er c 0 (Nat.zero_le _) hc (by rw [List.drop_zero]; exact hx)
     refine pe_seal (by simp) ?_
     refine runE mixed fi303 ?_
     refine effE mixed [0] (hs) ?_
     refine effE mixed [1] (hr) ?_
     refine effP [] (must_er_dbytes [] e (rdP_ne hx)) ?_; trivial
    | ok x =>
     obtain ⟨v, m⟩ := x
     have hm := rdP_fits _ _ _ hx
     have hr := roct_ok c 0 (Nat.zero_le _) hc (by rw [List.drop_zero]; exact hx)
     have hl := left_c c m hm
     rw [Nat.zero_add] at hr
     simp only [closeP]
     by_cases hml : m < c.length
     · rw [if_pos hml]
       refine pe_seal (by simp) ?_
       refine runE mixed fi303 ?_
       refine effE mixed [0] (hs) ?_
       refine effE mixed [1] (hr) ?_
       refine callI_pure (must_dbytes _) ?_
       refine goE mixed ?_
       refine effP [1] (dend_f c m hml) ?_
       rfl
     · rw [if_neg hml]
       refine pe_seal (by simp) ?_
       refine runE mixed fi303 ?_
       refine effE mixed [0] (hs) ?_
       refine effE mixed [1] (hr) ?_
       refine callI_pure (must_dbytes _) ?_
       refine goE mixed ?_
       refine effE mixed [1] (dend_t c m (by omega)) ?_; trivial
  · rw [inP_f h1]
    have hs := rtag_er i hi b n hn hb h h1
    generalize takeE (tagB i) (b.drop n) = e at *
    refine pe_seal (by simp) ?_
    refine runE mixed fi303 ?_
    refine effE mixed [0] (hs) ?_
    exact ⟨fun _ => trivial, fun q => absurd (by omega) h1⟩
theorem fstr_c (i : Nat) (hi : i ≤ 30) (b : List UInt8) (n : Nat) (hn : n ≤ b.length) (hb : b.length ≤ 1099511627776) : EffX Tryz.prog 260 [.ptr 0 0, rI i, .fn 148 [] []] b n (fun v => rS v) (needP i strP (b.drop n)) := by
 cases h : nextB i (b.drop n) with
 | false =>
  rw [needP_no h, List.length_drop]
  have hs := rtag_no i hi b n hn h
  have hl := left_c b n hn
  generalize b.length - n = q at *
  refine pe_seal (by simp) ?_
  refine runE mixed fi260 ?_
  refine effE mixed [0] (hs) ?_
  refine effE mixed [0] (hl) ?_
  by_cases hq : q = 0
  · simp [hq]
  · simp [hq]
 | true =>
  rw [needP_in h]
  by_cases h1 : takeE (tagB i) (b.drop n) = 0
  · rw [inP_t h1]
    have hs := rtag_ok i hi b n hn hb h h1
    have hc := tkC_le (n := n) hb
    generalize takeC (b.drop n) = c at *
    generalize takeN (b.drop n) = N at *
    cases hx : strP c with
    | error e =>
     have hr := rstr_er c 0 (Nat.zero_le _) hc (by rw [List.drop_zero]; exact hx)
     refine pe_seal (by simp) ?_
     refine runE mixed fi260 ?_
     refine effE mixed [0] (hs) ?_
     refine effE mixed [1] (hr) ?_
     refine effP [] (must_er_nstr (.string ⟨#[]⟩) e (rdP_ne hx)) ?_; trivial
    | ok x =>
     obtain ⟨v, m⟩ := x
     have hm := rdP_fits _ _ _ hx
     have hr := rstr_ok c 0 (Nat.zero_le _) hc (by rw [List.drop_zero]; exact hx)
     have hl := left_c c m hm
     rw [Nat.zero_add] at hr
     simp only [closeP]
     by_cases hml : m < c.length
     · rw [if_pos hml]
       refine pe_seal (by simp) ?_
       refine runE mixed fi260 ?_
       refine effE mixed [0] (hs) ?_
       refine effE mixed [1] (hr) ?_
       refine callI_pure (must_nstr _) ?_
       refine goE mixed ?_
       refine effE mixed [1] (hl) ?_
       exact ⟨fun _ => rfl, fun q => absurd (by omega) q⟩
     · rw [if_neg hml]
       refine pe_seal (by simp) ?_
       refine runE mixed fi260 ?_
       refine effE mixed [0] (hs) ?_
       refine effE mixed [1] (hr) ?_
       refine callI_pure (must_nstr _) ?_
       refine goE mixed ?_
       refine effE mixed [1] (hl) ?_
       exact ⟨fun q => absurd q (by omega), fun _ => trivial⟩
  · rw [inP_f h1]
    have hs := rtag_er i hi b n hn hb h h1
    generalize takeE (tagB i) (b.drop n) = e at *
    refine pe_seal (by simp) ?_
    refine runE mixed fi260 ?_
    refine effE mixed [0] (hs) ?_
    exact ⟨fun _ => trivial, fun q => absurd (by omega) h1⟩
end Go.Proofs.YtddmkgibghohkaaGreatDoor
/- Contracts: reading a key. -/
namespace Go.Proofs.YtddmkgibghohkaaGreatDoor
open Go Go.Sx Go.Proofs
set_option maxRecDepth 100000
set_option maxHeartbeats 4000000
set_option linter.unusedSimpArgs false

def zO {α : Type} (res : α → SV) : Except Nat (α × Nat) → Out
 | .ok (v, _) => .ret (res v)
 | .error e => .pan (errV e)
def zH {α : Type} (b : List UInt8) (n m : Nat) : Except Nat (α × Nat) → List SObj
 | .ok (_, k) => [rdr b (n + k)]
 | .error _ => [rdr b m]
attribute [go_sem] zO zH
def EffZ (P : Program) {α : Type} (f : FuncId) (args : List SV) (b : List UInt8) (n m : Nat) (res : α → SV) (x : Except Nat (α × Nat)) : Prop := PE P f args [rdr b n] (zO res x) (zH b n m x)
theorem effZ_of {P : Program} {α : Type} {f : FuncId} {args : List SV} {b : List UInt8} {n m : Nat} {res : α → SV} {x : Except Nat (α × Nat)} (h : VC P f args [rdr b n] (SealO (zO res x) (zH b n m x))) : EffZ P f args b n m res x := by
 cases x with
 | error e => exact pe_seal (by simp [zH]) h
 | ok y => exact pe_seal (by simp [zH]) h
theorem effZ_ok {P : Program} {α : Type} {f : FuncId} {args : List SV} {b : List UInt8} {n m : Nat} {res : α → SV} {x : Except Nat (α × Nat)} {v : α} {k : Nat} (h : EffZ P f args b n m res x) (hx : x = .ok (v, k)) : PE P f args [rdr b n] (.ret (res v)) [rdr b (n + k)] := by rw [hx] at h; exact h
theorem effZ_er {P : Program} {α : Type} {f : FuncId} {args : List SV} {b : List UInt8} {n m : Nat} {res : α → SV} {x : Except Nat (α × Nat)} {e : Nat} (h : EffZ P f args b n m res x) (hx : x = .error e) : PE P f args [rdr b n] (.pan (errV e)) [rdr b m] := by rw [hx] at h; exact h
def posX (b : List UInt8) (n : Nat) : Nat := if takeE 48 (b.drop n) = 0 then n + takeN (b.drop n) else n
theorem posX_t {b : List UInt8} {n : Nat} (h : takeE 48 (b.drop n) = 0) : posX b n = n + takeN (b.drop n) := if_pos h
theorem posX_f {b : List UInt8} {n : Nat} (h : takeE 48 (b.drop n) ≠ 0) : posX b n = n := if_neg h
def tripIn : PR Key := bindP (needP 0 intP) fun a => bindP (needP 1 intP) fun k => bindP (needP 2 octP) fun c => retP ((a, k, c) : Key)
def keyP : PR Key := inP 48 tripIn
theorem bindP_s0 {α β : Type} {p : PR α} {f : α → PR β} {b : List UInt8} {v : α} {k : Nat} (h : p b = .ok (v, k)) : bindP p f b = shiftP k (f v (b.drop k)) := by
 have := bindP_st (f := f) (b := b) (n := 0) (by rw [List.drop_zero]; exact h)
 rwa [List.drop_zero, Nat.zero_add] at this
theorem rtriple_c (b : List UInt8) (n : Nat) (hn : n ≤ b.length) (hb : b.length ≤ 1099511627776) :
 EffZ Tryz.prog 283 [.ptr 0 0] b n (posX b n) (fun v : Key => .tup [rI v.1, rI v.2.1, .isl .u8 v.2.2]) (keyP (b.drop n)) := by
 unfold keyP
 by_cases h : takeE 48 (b.drop n) = 0
 · have hs := rseq_ok b n hn hb h
   have hc := tkC_le (n := n) hb
   rw [inP_t h, posX_t h]
   generalize takeC (b.drop n) = c at *
   generalize takeN (b.drop n) = N at *
   unfold tripIn
   refine effZ_of ?_
   refine runE mixed fi283 ?_
   refine effE mixed [0] (hs) ?_
   refine effE mixed [1] (must_drdr c 0) ?_
   have e1 := fint_c 0 (by omega) c 0 (Nat.zero_le _) hc
   rw [List.drop_zero] at e1
   cases h1 : needP 0 intP c with
   | error e =>
    rw [bindP_er h1]
    have e1' := effX_er e1 h1
    simp only [closeP]
    refine effP [1] (e1') ?_; trivial
   | ok x =>
    obtain ⟨v1, k1⟩ := x
    rw [bindP_s0 h1]
    have e1' := effX_ok e1 h1
    have f1 := needP_fits _ _ _ h1
    rw [Nat.zero_add] at e1'
    refine effE mixed [1] (e1') ?_
    have e2 := fint_c 1 (by omega) c _ f1 hc
    cases h2 : needP 1 intP (c.drop k1) with
    | error e =>
     rw [bindP_er h2]
     have e2' := effX_er e2 h2
     simp only [shiftP, closeP]
     refine effP [1] (e2') ?_; trivial
    | ok x =>
     obtain ⟨v2, k2⟩ := x
     rw [bindP_st h2]
     have e2' := effX_ok e2 h2
     have f2 := fits_at needP_fits f1 h2
     refine effE mixed [1] (e2') ?_
     have e3 := foct_c 2 (by omega) c _ f2 hc
     cases h3 : needP 2 octP (c.drop (k1 + k2)) with
     | error e =>
      rw [bindP_er h3]
      have e3' := effX_er e3 h3
      simp only [shiftP, closeP]
      refine effP [1] (e3') ?_; trivial
     | ok x =>
      obtain ⟨v3, k3⟩ := x
      rw [bindP_st h3]
      have e3' := effX_ok e3 h3
      have f3 := fits_at needP_fits f2 h3
      simp only [shiftP, retP, closeP]
      refine effE mixed [1] (e3') ?_
      by_cases hm : k1 + k2 + k3 < c.length
      · rw [if_pos (by omega)]
        refine effP [1] (dend_f c _ hm) ?_
        rfl
      · rw [if_neg (by omega)]
        refine effE mixed [1] (dend_t c (k1 + k2 + k3) (by omega)) ?_; trivial
 · have hs := rseq_er b n hn hb h
   rw [inP_f h, posX_f h]
   generalize takeE 48 (b.drop n) = e at *
   refine effZ_of ?_
   refine runE mixed fi283 ?_
   refine effE mixed [0] (hs) ?_
   refine effP [] (must_er_drdr e h) ?_; trivial
theorem key1_c (b : List UInt8) (n : Nat) (hn : n ≤ b.length) (hb : b.length ≤ 1099511627776) :
 EffZ Tryz.prog 282 [.ptr 0 0] b n (posX b n) (fun v : Key => .agg (KeyT.cells v)) (keyP (b.drop n)) := by
 have ht := rtriple_c b n hn hb
 refine effZ_of ?_
 generalize keyP (b.drop n) = X at *
 cases X with
 | error e =>
  have ht' := effZ_er ht rfl
  refine runE mixed fi282 ?_
  refine effP [0] (ht') ?_; trivial
 | ok x =>
  obtain ⟨v, k⟩ := x
  have ht' := effZ_ok ht rfl
  refine runE mixed fi282 ?_
  refine effE mixed [0] (ht') ?_; trivial
end Go.Proofs.YtddmkgibghohkaaGreatDoor
/- The plain law of reading: keys. -/
namespace Go.Proofs.YtddmkgibghohkaaGreatDoor
open Go Go.Sx Go.Proofs
set_option maxRecDepth 100000
set_option maxHeartbeats 4000000
set_option linter.unusedSimpArgs false

theorem wrapS_tlv {n : Nat} {b : List UInt8} (hn : n ≤ 30) (h : b.length ≤ 16777215) (h0 : b ≠ []) : wrapS 160 n b = tlv (tagB n) b := by rw [wrapS_ok hn h, if_neg h0]
theorem tlv_ne {t : UInt8} {c : List UInt8} : tlv t c ≠ [] := by simp [tlv]
theorem keyS_tlv (a v : Int) (c : List UInt8) (ha : 0 ≤ a ∧ a ≤ 1048576) (hv : 0 ≤ v ∧ v ≤ 1048576) (hc : c.length ≤ 65536) : keyS (a, v, c) = tlv 48 (sufS [intS a, intS v, elemS 4 [c]] 0 3) ∧ (sufS [intS a, intS v, elemS 4 [c]] 0 3).length ≤ 16777215 := by
 have i1 := intS_len a
 have i2 := intS_len v
 obtain ⟨c1, e1, _⟩ := intS_i (v := a) (by omega)
 obtain ⟨c2, e2, _⟩ := intS_i (v := v) (by omega)
 have e3 : elemS 4 [c] = tlv 4 c := elemS_ok (by omega)
 have w3 := elemS_len 4 [c]
 simp only [List.flatten_cons, List.flatten_nil, List.append_nil] at w3
 have w0 := wrapS_len 160 0 (intS a)
 have w1 := wrapS_len 160 1 (intS v)
 have w2 := wrapS_len 160 2 (elemS 4 [c])
 have n0 : wrapS 160 0 (intS a) ≠ [] := by rw [show (0 : Int) = ((0 : Nat) : Int) from rfl, wrapS_tlv (by omega) (by omega) (by rw [e1]; exact tlv_ne)]; exact tlv_ne
 have n1 : wrapS 160 1 (intS v) ≠ [] := by rw [show (1 : Int) = ((1 : Nat) : Int) from rfl, wrapS_tlv (by omega) (by omega) (by rw [e2]; exact tlv_ne)]; exact tlv_ne
 have n2 : wrapS 160 2 (elemS 4 [c]) ≠ [] := by rw [show (2 : Int) = ((2 : Nat) : Int) from rfl, wrapS_tlv (by omega) (by omega) (by rw [e3]; exact tlv_ne)]; exact tlv_ne
 have hf : (tagN [intS a, intS v, elemS 4 [c]] 3).flatten = sufS [intS a, intS v, elemS 4 [c]] 0 3 := sufS_all [intS a, intS v, elemS 4 [c]]
 have ht : tagN [intS a, intS v, elemS 4 [c]] 3 = [wrapS 160 0 (intS a), wrapS 160 1 (intS v), wrapS 160 2 (elemS 4 [c])] := by simp [tagN, List.range_succ]
 have hl : (sufS [intS a, intS v, elemS 4 [c]] 0 3).length ≤ 16777215 := by
  rw [← hf, ht]
  simp only [List.flatten_cons, List.flatten_nil, List.append_nil, List.length_append]
  omega
 refine ⟨?_, hl⟩
 have hfull : allN 3 (fullAt [wrapS 160 0 (intS a), wrapS 160 1 (intS v), wrapS 160 2 (elemS 4 [c])]) = true := by
  refine allN_true fun j hj => ?_
  match j, hj with
  | 0, _ => exact decide_eq_true n0
  | 1, _ => exact decide_eq_true n1
  | 2, _ => exact decide_eq_true n2
 show wholeS [wrapS 160 0 (intS a), wrapS 160 1 (intS v), wrapS 160 2 (elemS 4 [c])] = _
 unfold wholeS
 rw [show ([wrapS 160 0 (intS a), wrapS 160 1 (intS v), wrapS 160 2 (elemS 4 [c])] : List (List UInt8)).length = 3 from rfl, if_pos hfull, ← ht, elemS_flat (by rw [hf]; exact hl), hf]
theorem keyP_at (a v : Int) (c : List UInt8) (ha : 0 ≤ a ∧ a ≤ 1048576) (hv : 0 ≤ v ∧ v ≤ 1048576) (hc : c.length ≤ 65536) (r : List UInt8) : keyP (keyS (a, v, c) ++ r) = .ok ((a, v, c), (keyS (a, v, c)).length) := by
 have i1 := intS_len a
 have i2 := intS_len v
 obtain ⟨c1, e1, _⟩ := intS_i (v := a) (by omega)
 obtain ⟨c2, e2, _⟩ := intS_i (v := v) (by omega)
 have e3 : elemS 4 [c] = tlv 4 c := elemS_ok (by omega)
 have w3 := elemS_len 4 [c]
 simp only [List.flatten_cons, List.flatten_nil, List.append_nil] at w3
 have hL : ∀ j, (([intS a, intS v, elemS 4 [c]] : List (List UInt8)).getD j []).length ≤ 16777215 := fun j => by
  match j with
  | 0 => show (intS a).length ≤ _; omega
  | 1 => show (intS v).length ≤ _; omega
  | 2 => show (elemS 4 [c]).length ≤ _; omega
  | j + 3 => exact Nat.zero_le _
 obtain ⟨hS, hin⟩ := keyS_tlv a v c ha hv hc
 rw [hS]
 refine inP_tlv hin ?_ r
 have q0 : intP (([intS a, intS v, elemS 4 [c]] : List (List UInt8)).getD 0 []) = .ok (a, (([intS a, intS v, elemS 4 [c]] : List (List UInt8)).getD 0 []).length) := full (e := intS a) (intP_ok (by omega))
 have q1 : intP (([intS a, intS v, elemS 4 [c]] : List (List UInt8)).getD 1 []) = .ok (v, (([intS a, intS v, elemS 4 [c]] : List (List UInt8)).getD 1 []).length) := full (e := intS v) (intP_ok (by omega))
 have q2 : octP (([intS a, intS v, elemS 4 [c]] : List (List UInt8)).getD 2 []) = .ok (c, (([intS a, intS v, elemS 4 [c]] : List (List UInt8)).getD 2 []).length) := full (e := elemS 4 [c]) (octP_ok (by omega))
 have n0 : ([intS a, intS v, elemS 4 [c]] : List (List UInt8)).getD 0 [] ≠ [] := by show intS a ≠ []; rw [e1]; exact tlv_ne
 have n1 : ([intS a, intS v, elemS 4 [c]] : List (List UInt8)).getD 1 [] ≠ [] := by show intS v ≠ []; rw [e2]; exact tlv_ne
 have n2 : ([intS a, intS v, elemS 4 [c]] : List (List UInt8)).getD 2 [] ≠ [] := by show elemS 4 _ ≠ []; rw [e3]; exact tlv_ne
 have g := bindP_ok (f := fun a => bindP (needP 1 intP) fun k => bindP (needP 2 octP) fun c => retP ((a, k, c) : Key)) (need_suf (k := 2) hL (by omega) n0 q0)
  (bindP_ok (f := fun k => bindP (needP 2 octP) fun c => retP ((a, k, c) : Key)) (need_suf (k := 1) hL (by omega) n1 q1)
   (bindP_ok (f := fun c => retP ((a, v, c) : Key)) (need_suf (k := 0) hL (by omega) n2 q2) rfl))
 show tripIn _ = _
 unfold tripIn
 rw [g]
 congr 2
 rw [sufS_succ, sufS_succ, sufS_succ]
 simp only [sufS, List.range'_zero, List.map_nil, List.flatten_nil, List.append_nil, List.length_append, Nat.zero_add, Nat.reduceAdd]
 omega
end Go.Proofs.YtddmkgibghohkaaGreatDoor
/- The plain law of reading: key sets. -/
namespace Go.Proofs.YtddmkgibghohkaaGreatDoor
open Go Go.Sx Go.Proofs
set_option maxRecDepth 100000
set_option maxHeartbeats 4000000
set_option linter.unusedSimpArgs false

theorem keyS_len (a v : Int) (c : List UInt8) : (keyS (a, v, c)).length ≤ c.length + 58 := by
 have i1 := intS_len a
 have i2 := intS_len v
 have w3 := elemS_len 4 [c]
 simp only [List.flatten_cons, List.flatten_nil, List.append_nil] at w3
 have w0 := wrapS_len 160 0 (intS a)
 have w1 := wrapS_len 160 1 (intS v)
 have w2 := wrapS_len 160 2 (elemS 4 [c])
 show (wholeS [wrapS 160 0 (intS a), wrapS 160 1 (intS v), wrapS 160 2 (elemS 4 [c])]).length ≤ _
 have w4 := elemS_len 48 [wrapS 160 0 (intS a), wrapS 160 1 (intS v), wrapS 160 2 (elemS 4 [c])]
 simp only [List.flatten_cons, List.flatten_nil, List.append_nil, List.length_append] at w4
 unfold wholeS
 split
 · omega
 · simp
theorem flat_len {α : Type} (f : α → List UInt8) (B : Nat) : ∀ l : List α, (∀ x ∈ l, (f x).length ≤ B) → (l.map f).flatten.length ≤ B * l.length
 | [], _ => by simp
 | x :: l, h => by
  have h1 := h x (by simp)
  have h2 := flat_len f B l fun y hy => h y (by simp [hy])
  simp only [List.map_cons, List.flatten_cons, List.length_append, List.length_cons, Nat.mul_add, Nat.mul_one]
  omega
def keyOk3 (a v : Int) (c : List UInt8) : Prop := (0 ≤ a ∧ a ≤ 1048576) ∧ (0 ≤ v ∧ v ≤ 1048576) ∧ c.length ≤ 65536
def keyOk : Key → Prop
 | (a, v, c) => keyOk3 a v c
theorem keyP_ok {k : Key} (h : keyOk k) (r : List UInt8) : keyP (keyS k ++ r) = .ok (k, (keyS k).length) := by
 obtain ⟨a, v, c⟩ := k
 exact keyP_at a v c h.1 h.2.1 h.2.2 r
theorem keyS_le {k : Key} (h : keyOk k) : (keyS k).length ≤ 65600 := by
 obtain ⟨a, v, c⟩ := k
 have h1 := keyS_len a v c
 have h2 : c.length ≤ 65536 := h.2.2
 exact Nat.le_trans h1 (by omega)
theorem keyS_ne {k : Key} (h : keyOk k) : keyS k ≠ [] := by
 obtain ⟨a, v, c⟩ := k
 rw [(keyS_tlv a v c h.1 h.2.1 h.2.2).1]
 exact tlv_ne
theorem numO_q {v : Int} (h : 0 ≤ v ∧ v ≤ 4611686018427387904) : if numO v = [] then v = 0 else intP (numO v) = .ok (v, (numO v).length) := by
 by_cases h0 : v = 0
 · rw [if_pos (by unfold numO; rw [if_pos h0])]; exact h0
 · have e : numO v = intS v := by unfold numO; rw [if_neg h0]
   rw [e]
   obtain ⟨c, e1, _⟩ := intS_i h
   rw [if_neg (by rw [e1]; exact tlv_ne)]
   exact full (intP_ok h)
theorem txtO_q {s : ByteArray} (h : s.size ≤ 16777215) : if txtO s = [] then s = ⟨#[]⟩ else strP (txtO s) = .ok (s, (txtO s).length) := by
 by_cases h0 : s = ⟨#[]⟩
 · rw [if_pos (by unfold txtO; rw [if_pos h0])]; exact h0
 · have e : txtO s = elemS 27 [s.data.toList] := by unfold txtO; rw [if_neg h0]
   rw [e]
   have hl : s.data.toList.length = s.size := by simp
   rw [if_neg (by rw [elemS_ok (by omega)]; exact tlv_ne)]
   exact full (strP_ok h)
theorem timO_q {n : Nat} (h : n ≤ 1099511627776) : if timO (n : Int) = [] then n = 0 else timeP (timO (n : Int)) = .ok (n, (timO (n : Int)).length) := by
 by_cases h0 : n = 0
 · rw [if_pos (by unfold timO; rw [if_pos (by omega)])]; exact h0
 · have e : timO (n : Int) = timeS n := by unfold timO; rw [if_neg (by omega)]
   rw [e, if_neg (by rw [timeS_tlv (by omega)]; exact tlv_ne)]
   exact full (timeP_ok h)
theorem listS_q {t : Ty} {p : PR t.den} {w : t.den → List UInt8} {l : List t.den} {n : Nat} (hl : l.length ≤ n) (hx : ∀ x ∈ l, w x ≠ [] ∧ ∀ r, p (w x ++ r) = .ok (x, (w x).length)) (hb : (l.map w).flatten.length ≤ 16777215) :
 if listS w l = [] then l = [] else inP 48 (listP p n) (listS w l) = .ok (l, (listS w l).length) := by
 by_cases h0 : l.length = 0
 · rw [if_pos (by unfold listS; rw [if_pos h0])]; exact List.length_eq_zero_iff.1 h0
 · have e : listS w l = tlv 48 (l.map w).flatten := by unfold listS mapN; rw [if_neg h0, List.take_length, elemS_flat hb]
   rw [e, if_neg tlv_ne]
   exact full (inP_tlv hb (listP_ok l n hl hx))
theorem listS_le {t : Ty} {w : t.den → List UInt8} {l : List t.den} (B : Nat) (hx : ∀ x ∈ l, (w x).length ≤ B) : (listS w l).length ≤ B * l.length + 5 := by
 unfold listS
 split
 · simp
 · have h1 := elemS_len 48 (mapN w l l.length)
   have h2 := flat_len w B l hx
   unfold mapN at h1
   rw [List.take_length] at h1
   unfold mapN
   rw [List.take_length]
   omega
theorem tagS_tlv {l : List (List UInt8)} (h : (sufS l 0 l.length).length ≤ 16777215) : tagS l = tlv 48 (sufS l 0 l.length) := by
 unfold tagS
 rw [elemS_flat (by rw [sufS_all]; exact h), sufS_all]
theorem sufS_le {l : List (List UInt8)} : ∀ (k n : Nat), (sufS l n k).length ≤ ((List.range' n k).map fun j => (l.getD j []).length + 5).sum
 | 0, n => by simp [sufS]
 | k + 1, n => by
  rw [sufS_succ, List.range'_succ]
  have := wrapS_len 160 (n : Nat) (l.getD n [])
  have := sufS_le (l := l) k (n + 1)
  simp only [List.length_append, List.map_cons, List.sum_cons]
  omega
def setIn : PR KSet := bindP (dfltP (0 : Int) 0 intP) fun v => bindP (dfltP [] 1 (inP 48 (listP keyP 4))) fun ks => bindP (dfltP ⟨#[]⟩ 2 strP) fun t => bindP (dfltP (0 : Int) 3 intP) fun m => bindP (needP 4 timeP) fun w => retP ((v, ks, t, m, ((w : Nat) : Int)) : KSet)
def setP : PR KSet := inP 48 setIn
theorem setIn_at (p0 p1 p2 p3 p4 : List UInt8) (v : Int) (ks : List Key) (t : ByteArray) (m : Int) (w : Nat) (l0 : p0.length ≤ 16777215) (l1 : p1.length ≤ 16777215) (l2 : p2.length ≤ 16777215) (l3 : p3.length ≤ 16777215) (l4 : p4.length ≤ 16777215)
 (q0 : if p0 = [] then v = 0 else intP p0 = .ok (v, p0.length)) (q1 : if p1 = [] then ks = [] else inP 48 (listP keyP 4) p1 = .ok (ks, p1.length)) (q2 : if p2 = [] then t = ⟨#[]⟩ else strP p2 = .ok (t, p2.length))
 (q3 : if p3 = [] then m = 0 else intP p3 = .ok (m, p3.length)) (n4 : p4 ≠ []) (q4 : timeP p4 = .ok (w, p4.length)) : setIn (sufS [p0, p1, p2, p3, p4] 0 5) = .ok ((v, ks, t, m, (w : Int)), (sufS [p0, p1, p2, p3, p4] 0 5).length) := by
 have hL : ∀ j, (([p0, p1, p2, p3, p4] : List (List UInt8)).getD j []).length ≤ 16777215 := fun j => by
  match j with
  | 0 => exact l0
  | 1 => exact l1
  | 2 => exact l2
  | 3 => exact l3
  | 4 => exact l4
  | j + 5 => exact Nat.zero_le _
 have g := bindP_ok (f := fun v => bindP (dfltP [] 1 (inP 48 (listP keyP 4))) fun ks => bindP (dfltP ⟨#[]⟩ 2 strP) fun t => bindP (dfltP (0 : Int) 3 intP) fun m => bindP (needP 4 timeP) fun w => retP ((v, ks, t, m, ((w : Nat) : Int)) : KSet)) (dflt_suf (l := [p0, p1, p2, p3, p4]) (n := 0) (k := 4) hL (by omega) q0)
  (bindP_ok (f := fun ks => bindP (dfltP ⟨#[]⟩ 2 strP) fun t => bindP (dfltP (0 : Int) 3 intP) fun m => bindP (needP 4 timeP) fun w => retP ((v, ks, t, m, ((w : Nat) : Int)) : KSet)) (dflt_suf (l := [p0, p1, p2, p3, p4]) (n := 1) (k := 3) hL (by omega) q1)
   (bindP_ok (f := fun t => bindP (dfltP (0 : Int) 3 intP) fun m => bindP (needP 4 timeP) fun w => retP ((v, ks, t, m, ((w : Nat) : Int)) : KSet)) (dflt_suf (p := strP) (d := (⟨#[]⟩ : ByteArray)) (v := t) (l := [p0, p1, p2, p3, p4]) (n := 2) (k := 2) hL (by omega) q2)
    (bindP_ok (f := fun m => bindP (needP 4 timeP) fun w => retP ((v, ks, t, m, ((w : Nat) : Int)) : KSet)) (dflt_suf (l := [p0, p1, p2, p3, p4]) (n := 3) (k := 1) hL (by omega) q3)
     (bindP_ok (f := fun w => retP ((v, ks, t, m, ((w : Nat) : Int)) : KSet)) (need_suf (l := [p0, p1, p2, p3, p4]) (n := 4) (k := 0) hL (by omega) n4 q4) rfl))))
 unfold setIn
 rw [g]
 congr 2
 rw [sufS_succ, sufS_succ, sufS_succ, sufS_succ, sufS_succ]
 simp only [sufS, List.range'_zero, List.map_nil, List.flatten_nil, List.append_nil, List.length_append, Nat.zero_add, Nat.reduceAdd]
 omega
theorem setP_at (v : Int) (ks : List Key) (t : ByteArray) (m : Int) (w : Nat) (hv : 0 ≤ v ∧ v ≤ 1048576) (hk : ks.length ≤ 4) (hks : ∀ k ∈ ks, keyOk k) (ht : t.size ≤ 65536) (hm : 0 ≤ m ∧ m ≤ 1048576) (hw : w ≤ 1099511627776) :
 (∀ r : List UInt8, setP (setS (v, ks, t, m, (w : Int)) ++ r) = .ok ((v, ks, t, m, (w : Int)), (setS (v, ks, t, m, (w : Int))).length)) ∧ (setS (v, ks, t, m, (w : Int))).length ≤ 400000 ∧ setS (v, ks, t, m, (w : Int)) ≠ [] := by
 have i0 := intS_len v
 obtain ⟨c0, e0, _⟩ := intS_i (v := v) (by omega)
 have i1 : (listS (t := KeyT) keyS ks).length ≤ 262500 := by
  have := listS_le (t := KeyT) (w := keyS) (l := ks) 65600 fun x hx => keyS_le (hks x hx)
  have h4 : 65600 * ks.length ≤ 65600 * 4 := Nat.mul_le_mul_left _ hk
  exact Nat.le_trans this (by omega)
 have hl : t.data.toList.length = t.size := by simp
 have i2 : (txtO t).length ≤ 65541 := by
  unfold txtO
  split
  · simp
  · have := elemS_len 27 [t.data.toList]
    simp only [List.flatten_cons, List.flatten_nil, List.append_nil] at this
    omega
 have i3 : (numO m).length ≤ 14 := by
  unfold numO
  split
  · simp
  · exact intS_len m
 have e4 := timeS_tlv (t := (w : Int)) (by omega)
 have i4 : (timeS (w : Int)).length ≤ 11 := by
  have : (timeS (w : Int)).length ≤ 6 + 5 := by
   unfold timeS
   rw [if_pos (by omega)]
   have := elemS_len 24 [numS (w : Int) 6]
   simpa [numS_length] using this
  exact this
 have q0 : if intS v = [] then v = 0 else intP (intS v) = .ok (v, (intS v).length) := by
  rw [if_neg (by rw [e0]; exact tlv_ne)]
  exact full (intP_ok (by omega))
 have hb : (ks.map keyS).flatten.length ≤ 16777215 := by
  have := flat_len keyS 65600 ks fun x hx => keyS_le (hks x hx)
  have h4 : 65600 * ks.length ≤ 65600 * 4 := Nat.mul_le_mul_left _ hk
  omega
 have q1 := listS_q (t := KeyT) (p := keyP) (w := keyS) (l := ks) (n := 4) hk (fun x hx => ⟨keyS_ne (hks x hx), keyP_ok (hks x hx)⟩) hb
 have g := setIn_at (intS v) (listS (t := KeyT) keyS ks) (txtO t) (numO m) (timeS (w : Int)) v ks t m w (by omega) (by omega) (by omega) (by omega) (by omega) q0 q1 (txtO_q (by omega)) (numO_q (by omega)) (by rw [e4]; exact tlv_ne) (full (timeP_ok hw))
 have hs := sufS_le (l := [intS v, listS (t := KeyT) keyS ks, txtO t, numO m, timeS (w : Int)]) 5 0
 have hs' : (sufS [intS v, listS (t := KeyT) keyS ks, txtO t, numO m, timeS (w : Int)] 0 5).length ≤ 399000 := by
  refine Nat.le_trans hs ?_
  show (intS v).length + 5 + ((listS (t := KeyT) keyS ks).length + 5 + ((txtO t).length + 5 + ((numO m).length + 5 + ((timeS (w : Int)).length + 5 + 0)))) ≤ _
  omega
 have hS : setS (v, ks, t, m, (w : Int)) = tlv 48 (sufS [intS v, listS (t := KeyT) keyS ks, txtO t, numO m, timeS (w : Int)] 0 5) := tagS_tlv (l := [intS v, listS (t := KeyT) keyS ks, txtO t, numO m, timeS (w : Int)]) (by show (sufS _ 0 5).length ≤ _; omega)
 rw [hS]
 refine ⟨fun r => inP_tlv (by omega) g r, ?_, tlv_ne⟩
 rw [tlv_length]
 have := lenS_len (sufS [intS v, listS (t := KeyT) keyS ks, txtO t, numO m, timeS (w : Int)] 0 5).length
 omega
end Go.Proofs.YtddmkgibghohkaaGreatDoor
/- The plain law of reading: names. -/
namespace Go.Proofs.YtddmkgibghohkaaGreatDoor
open Go Go.Sx Go.Proofs
set_option maxRecDepth 100000
set_option maxHeartbeats 4000000
set_option linter.unusedSimpArgs false

def atP {α : Type} (p : PR α) (l : List UInt8) : PR α := fun _ => match p l with
 | .ok (x, _) => .ok (x, 0)
 | .error e => .error e
def strsP (l : List UInt8) : PR (List ByteArray) := atP (listP strP l.length) l
def nameIn : PR Prin := bindP (needP 0 (rdP 48 decOct)) fun l => bindP (strsP l) fun xs => bindP (needP 1 strP) fun t => retP ((xs, t) : Prin)
def chkP {α : Type} (q : α → Bool) : Except Nat (α × Nat) → Except Nat (α × Nat)
 | .ok (v, k) => if q v = true then .ok (v, k) else .error 6
 | .error e => .error e
def nameP : PR Prin := fun r => chkP vPrin (inP 48 nameIn r)
theorem flat_ge {α : Type} (f : α → List UInt8) : ∀ l : List α, (∀ x ∈ l, f x ≠ []) → l.length ≤ (l.map f).flatten.length
 | [], _ => by simp
 | x :: l, h => by
  have h1 := List.length_pos_iff.2 (h x (by simp))
  have h2 := flat_ge f l fun y hy => h y (by simp [hy])
  simp only [List.map_cons, List.flatten_cons, List.length_append, List.length_cons]
  omega
def strE (s : ByteArray) : List UInt8 := elemS 27 [s.data.toList]
theorem strE_len (s : ByteArray) : (strE s).length ≤ s.size + 5 := by
 have := elemS_len 27 [s.data.toList]
 have hl : s.data.toList.length = s.size := by simp
 simp only [List.flatten_cons, List.flatten_nil, List.append_nil] at this
 unfold strE; omega
theorem strE_ne {s : ByteArray} (h : s.size ≤ 16777215) : strE s ≠ [] := by
 have hl : s.data.toList.length = s.size := by simp
 unfold strE
 rw [elemS_ok (by omega)]; exact tlv_ne
theorem nameIn_at (xs : List ByteArray) (t : ByteArray) (hn : xs.length ≤ 16) (hx : ∀ x ∈ xs, x.size ≤ 65536) (ht : t.size ≤ 65536) :
 (sufS [elemS 48 (strsN xs xs.length), strE t] 0 2).length ≤ 1200000 ∧ nameIn (sufS [elemS 48 (strsN xs xs.length), strE t] 0 2) = .ok ((xs, t), (sufS [elemS 48 (strsN xs xs.length), strE t] 0 2).length) := by
 have e0 : strsN xs xs.length = xs.map strE := by unfold strsN strE; rw [List.take_length]
 have hb : (xs.map strE).flatten.length ≤ 1048700 := by
  have := flat_len strE 65541 xs fun x hx' => by
   have := strE_len x
   have := hx x hx'
   omega
  have h4 : 65541 * xs.length ≤ 65541 * 16 := Nat.mul_le_mul_left _ hn
  omega
 have e1 : elemS 48 (strsN xs xs.length) = tlv 48 (xs.map strE).flatten := by rw [e0, elemS_flat (by omega)]
 have hF := flat_ge strE xs fun x hx' => strE_ne (by have := hx x hx'; omega)
 have l1 := strE_len t
 have l0 : (elemS 48 (strsN xs xs.length)).length ≤ 1048705 := by
  have := elemS_len 48 (strsN xs xs.length)
  rw [e0] at this ⊢
  omega
 have hs := sufS_le (l := [elemS 48 (strsN xs xs.length), strE t]) 2 0
 have hs' : (sufS [elemS 48 (strsN xs xs.length), strE t] 0 2).length ≤ 1200000 := by
  refine Nat.le_trans hs ?_
  show (elemS 48 (strsN xs xs.length)).length + 5 + ((strE t).length + 5 + 0) ≤ _
  omega
 refine ⟨hs', ?_⟩
 have hL : ∀ j, (([elemS 48 (strsN xs xs.length), strE t] : List (List UInt8)).getD j []).length ≤ 16777215 := fun j => by
  match j with
  | 0 => show (elemS 48 (strsN xs xs.length)).length ≤ _; omega
  | 1 => show (strE t).length ≤ _; omega
  | j + 2 => exact Nat.zero_le _
 have q0 : rdP 48 decOct (elemS 48 (strsN xs xs.length)) = .ok ((xs.map strE).flatten, (elemS 48 (strsN xs xs.length)).length) := by
  rw [e1]
  exact full (rdP_tlv (by omega) rfl)
 have n0 : elemS 48 (strsN xs xs.length) ≠ [] := by rw [e1]; exact tlv_ne
 have q1 : listP strP (xs.map strE).flatten.length (xs.map strE).flatten = .ok (xs, (xs.map strE).flatten.length) := listP_ok xs _ hF fun x hx' => ⟨strE_ne (by have := hx x hx'; omega), strP_ok (by have := hx x hx'; omega)⟩
 have q1' : ∀ r, strsP (xs.map strE).flatten r = .ok (xs, 0) := fun r => by unfold strsP atP; rw [q1]
 have q2 : strP (strE t) = .ok (t, (strE t).length) := full (strP_ok (by omega))
 have n2 : strE t ≠ [] := strE_ne (by omega)
 have g := bindP_ok (f := fun l => bindP (strsP l) fun xs => bindP (needP 1 strP) fun t => retP ((xs, t) : Prin)) (need_suf (l := [elemS 48 (strsN xs xs.length), strE t]) (n := 0) (k := 1) hL (by omega) n0 q0)
  (bindP_ok (p := strsP (xs.map strE).flatten) (f := fun xs => bindP (needP 1 strP) fun t => retP ((xs, t) : Prin)) (r' := sufS [elemS 48 (strsN xs xs.length), strE t] 1 1) ⟨q1' _, List.drop_zero⟩
   (bindP_ok (f := fun t => retP ((xs, t) : Prin)) (need_suf (l := [elemS 48 (strsN xs xs.length), strE t]) (n := 1) (k := 0) hL (by omega) n2 q2) rfl))
 unfold nameIn
 rw [g]
 congr 2
 rw [sufS_succ, sufS_succ]
 simp only [sufS, List.range'_zero, List.map_nil, List.flatten_nil, List.append_nil, List.length_append, Nat.zero_add, Nat.reduceAdd]
 omega
theorem nameP_at (xs : List ByteArray) (t : ByteArray) (hn : xs.length ≤ 16) (hx : ∀ x ∈ xs, x.size ≤ 65536) (ht : t.size ≤ 65536) (hv : vPrin (xs, t) = true) :
 (∀ r : List UInt8, nameP (prinS (xs, t) ++ r) = .ok ((xs, t), (prinS (xs, t)).length)) ∧ (prinS (xs, t)).length ≤ 1200010 ∧ prinS (xs, t) ≠ [] := by
 obtain ⟨h1, h2⟩ := nameIn_at xs t hn hx ht
 have hS : prinS (xs, t) = tlv 48 (sufS [elemS 48 (strsN xs xs.length), strE t] 0 2) := by
  show elemS 48 [wrapS 160 0 (elemS 48 (strsN xs xs.length)), wrapS 160 1 (strE t)] = _
  have e : ([wrapS 160 0 (elemS 48 (strsN xs xs.length)), wrapS 160 1 (strE t)] : List (List UInt8)).flatten = sufS [elemS 48 (strsN xs xs.length), strE t] 0 2 := by
   rw [sufS_succ, sufS_succ]
   simp [sufS]
  rw [elemS_flat (by rw [e]; omega), e]
 rw [hS]
 refine ⟨fun r => ?_, ?_, tlv_ne⟩
 · unfold nameP
   rw [inP_tlv (by omega) h2 r]
   simp only [chkP]
   rw [if_pos hv]
 · rw [tlv_length]
   have := lenS_len (sufS [elemS 48 (strsN xs xs.length), strE t] 0 2).length
   omega
end Go.Proofs.YtddmkgibghohkaaGreatDoor
/- Contracts: the reference's encoding of principals, keys, sets. -/
namespace Go.Proofs.YtddmkgibghohkaaGreatDoor
open Go Go.Sx Go.Proofs
set_option maxRecDepth 100000
set_option maxHeartbeats 4000000
set_option linter.unusedSimpArgs false

theorem flat_le {B : Nat} : ∀ (m : List (List UInt8)), (∀ x ∈ m, x.length ≤ B) → m.flatten.length ≤ B * m.length
 | [], _ => by simp
 | x :: m, h => by
  have h1 := h x (by simp)
  have h2 := flat_le m (fun y hy => h y (by simp [hy]))
  simp only [List.flatten_cons, List.length_append, List.length_cons, Nat.mul_add, Nat.mul_one]
  omega
theorem strsN_flat {l : List ByteArray} {k : Nat} (hl : l.length ≤ 4) (h : ∀ x ∈ l, x.size ≤ 32) : (strsN l k).flatten.length ≤ 148 := by
 have h1 := flat_le (B := 37) (strsN l k) (fun x hx => by
  unfold strsN at hx
  rw [List.mem_map] at hx
  obtain ⟨y, hy, rfl⟩ := hx
  have h2 := h y (List.mem_of_mem_take hy)
  have h3 := elemS_len 27 [y.data.toList]
  have h4 : y.data.toList.length = y.size := by simp
  simp only [List.flatten_cons, List.flatten_nil, List.append_nil] at h3
  omega)
 have h2 : (strsN l k).length ≤ 4 := by unfold strsN; simp; omega
 have : 37 * (strsN l k).length ≤ 37 * 4 := Nat.mul_le_mul_left _ h2
 omega
end Go.Proofs.YtddmkgibghohkaaGreatDoor
