/- Contracts: reading inside of elements, with a function. -/
import Derived.Test.YthmoognbccfpiaaGreatDoorP19
import Derived.Test.YthmoognbccfpiaaGreatDoorP17
import Derived.Test.YthmoognbccfpiaaGreatDoorP18
set_option linter.unusedSimpArgs false
set_option linter.unusedVariables false
set_option linter.unusedSectionVars false
namespace Go.Proofs.YthmoognbccfpiaaGreatDoor
open Go Go.Sx Go.Proofs
set_option maxRecDepth 100000
set_option maxHeartbeats 4000000
set_option linter.unusedSimpArgs false

theorem inP_cases {α : Type} {tag : UInt8} {p : PR α} {r : List UInt8} : (takeE tag r ≠ 0 ∧ inP tag p r = .error (takeE tag r)) ∨
 (takeE tag r = 0 ∧ ∃ e, p (takeC r) = .error e ∧ inP tag p r = .error e) ∨
 (takeE tag r = 0 ∧ ∃ v m, p (takeC r) = .ok (v, m) ∧ m < (takeC r).length ∧ inP tag p r = .error 6) ∨
 (takeE tag r = 0 ∧ ∃ v m, p (takeC r) = .ok (v, m) ∧ ¬ m < (takeC r).length ∧ inP tag p r = .ok (v, takeN r)) := by
 unfold inP allP
 by_cases h : takeE tag r = 0
 · right
   rw [if_pos h]
   cases hp : p (takeC r) with
   | error e => exact .inl ⟨h, e, rfl, rfl⟩
   | ok x =>
    obtain ⟨v, m⟩ := x
    by_cases hm : m < (takeC r).length
    · exact .inr (.inl ⟨h, v, m, rfl, hm, by simp [hm]⟩)
    · exact .inr (.inr ⟨h, v, m, rfl, hm, by simp [hm]⟩)
 · exact .inl ⟨h, by rw [if_neg h]⟩
def FitsP {α : Type} (p : PR α) : Prop := ∀ r v m, p r = .ok (v, m) → m ≤ r.length
theorem inP_fits {α : Type} {tag : UInt8} {p : PR α} : FitsP (inP tag p) := fun r v m h => by
 rcases inP_cases (tag := tag) (p := p) (r := r) with ⟨_, e⟩ | ⟨_, _, _, e⟩ | ⟨_, _, _, _, _, e⟩ | ⟨h0, _, _, _, _, e⟩ <;> rw [e] at h <;> cases h
 exact takeN_le h0
theorem rdP_fits {α : Type} {tag : UInt8} {dec : List UInt8 → Option α} : FitsP (rdP tag dec) := fun _ _ _ h => rdP_le h
theorem needP_fits {α : Type} {n : Nat} {p : PR α} : FitsP (needP n p) := fun r v m h => by
 unfold needP at h
 split at h
 · exact inP_fits r v m h
 · cases h
theorem dfltP_fits {α : Type} {d : α} {n : Nat} {p : PR α} : FitsP (dfltP d n p) := fun r v m h => by
 unfold dfltP mayP at h
 cases hb : nextB n r with
 | false => rw [hb] at h; cases h; exact Nat.zero_le _
 | true =>
  rw [hb] at h
  cases hp : inP (tagB n) p r with
  | error e => rw [hp] at h; cases h
  | ok x =>
   obtain ⟨u, k⟩ := x
   rw [hp] at h; cases h
   exact inP_fits r _ m hp
theorem bindP_fits {α β : Type} {p : PR α} {f : α → PR β} (hp : FitsP p) (hf : ∀ v, FitsP (f v)) : FitsP (bindP p f) := fun r v m h => by
 unfold bindP at h
 cases h1 : p r with
 | error e => rw [h1] at h; cases h
 | ok x =>
  obtain ⟨u, k⟩ := x
  rw [h1] at h
  simp only at h
  cases h2 : f u (r.drop k) with
  | error e => rw [h2] at h; cases h
  | ok y =>
   obtain ⟨z, l⟩ := y
   rw [h2] at h; cases h
   have := hp r _ k h1
   have := hf _ _ _ l h2
   rw [List.length_drop] at this
   omega
theorem retP_fits {α : Type} {v : α} : FitsP (retP v) := fun r u m h => by cases h; exact Nat.zero_le _
theorem listP_fits {α : Type} {p : PR α} (hp : FitsP p) : ∀ n, FitsP (listP p n)
 | 0, r, v, m, h => by
  simp only [listP] at h
  split at h
  · cases h; exact Nat.zero_le _
  · cases h
 | n + 1, r, v, m, h => by
  simp only [listP] at h
  split at h
  · cases h; exact Nat.zero_le _
  · cases h1 : p r with
    | error e => rw [h1] at h; cases h
    | ok x =>
     obtain ⟨u, k⟩ := x
     rw [h1] at h
     simp only at h
     cases h2 : listP p n (r.drop k) with
     | error e => rw [h2] at h; cases h
     | ok y =>
      obtain ⟨z, l⟩ := y
      rw [h2] at h; cases h
      have := hp r _ k h1
      have := listP_fits hp n _ _ l h2
      rw [List.length_drop] at this
      omega

theorem cln_rb {cs : List SV} (h : Cln cs) : (∀ σ, SV.renL σ cs = cs) ∧ (∀ n, SV.belL n cs = true) ∧ (∀ n H, SV.sealBL n H cs = some (cs, True)) ∧ SV.leAL cs cs := ⟨h.ren, h.bel, h.shut, h.le⟩
theorem cln_rbF {α : Type} {f : α → List SV} (h : ∀ v, Cln (f v)) : (∀ v σ, SV.renL σ (f v) = f v) ∧ (∀ v n, SV.belL n (f v) = true) ∧ (∀ v n H, SV.sealBL n H (f v) = some (f v, True)) ∧ ∀ v, SV.leAL (f v) (f v) := ⟨fun v => (h v).ren, fun v => (h v).bel, fun v => (h v).shut, fun v => (h v).le⟩
end Go.Proofs.YthmoognbccfpiaaGreatDoor

/- Contracts: reading tagged values that may be absent. -/
namespace Go.Proofs.YthmoognbccfpiaaGreatDoor
open Go Go.Sx Go.Proofs
set_option maxRecDepth 100000
set_option maxHeartbeats 4000000
set_option linter.unusedSimpArgs false

theorem rdP_ne {α : Type} {tag : UInt8} {dec : List UInt8 → Option α} {r : List UInt8} {e : Nat} (h : rdP tag dec r = .error e) : e ≠ 0 := by
 rcases rdP_er h with ⟨_, _, rfl⟩ | ⟨h1, rfl⟩
 · decide
 · exact h1
theorem dfltP_no {α : Type} {d : α} {n : Nat} {p : PR α} {r : List UInt8} (h : nextB n r = false) : dfltP d n p r = .ok (d, 0) := dfltP_none h
theorem dfltP_in {α : Type} {d : α} {n : Nat} {p : PR α} {r : List UInt8} (h : nextB n r = true) : dfltP d n p r = inP (tagB n) p r := by
 unfold dfltP mayP
 rw [if_pos h]
 cases inP (tagB n) p r with
 | error e => rfl
 | ok x => rfl
end Go.Proofs.YthmoognbccfpiaaGreatDoor

/- Contracts: reading lists of values. -/
namespace Go.Proofs.YthmoognbccfpiaaGreatDoor
open Go Go.Sx Go.Proofs
set_option maxRecDepth 100000
set_option maxHeartbeats 4000000
set_option linter.unusedSimpArgs false

def effH {α : Type} (b : List UInt8) (n : Nat) (E : List SObj) (upd : α → List SObj) : Except Nat (α × Nat) → List SObj
 | .ok (v, k) => rdr b (n + k) :: upd v
 | .error _ => .dead :: E.map fun _ => .dead
def tailP {α : Type} (xs : List α) (k : Nat) : Except Nat (List α × Nat) → Except Nat (List α × Nat)
 | .ok (l, m) => .ok (xs ++ l, k + m)
 | .error e => .error e
theorem listP_step {α : Type} {p : PR α} {most : Nat} {c : List UInt8} {xs : List α} {k n : Nat} {v : α} {m : Nat} (hk : k < c.length) (hm : 0 < most) (hp : p (c.drop k) = .ok (v, m)) : tailP xs n (listP p most (c.drop k)) = tailP (xs ++ [v]) (n + m) (listP p (most - 1) (c.drop (k + m))) := by
 obtain ⟨most, rfl⟩ : ∃ q, most = q + 1 := ⟨most - 1, by omega⟩
 simp only [listP]
 rw [if_neg (by rw [List.length_drop]; omega), hp]
 simp only [Nat.add_sub_cancel, List.drop_drop]
 cases listP p most (c.drop (k + m)) with
 | error e => rfl
 | ok y => obtain ⟨l, q⟩ := y; simp [tailP]; omega
theorem listP_full {α : Type} {p : PR α} {c : List UInt8} {xs : List α} {k n : Nat} (hk : k < c.length) : tailP xs n (listP p 0 (c.drop k)) = .error 6 := by
 simp only [listP]
 rw [if_neg (by rw [List.length_drop]; omega)]; rfl
theorem listP_bad {α : Type} {p : PR α} {most : Nat} {c : List UInt8} {xs : List α} {k n : Nat} {e : Nat} (hk : k < c.length) (hm : 0 < most) (hp : p (c.drop k) = .error e) : tailP xs n (listP p most (c.drop k)) = .error e := by
 obtain ⟨most, rfl⟩ : ∃ q, most = q + 1 := ⟨most - 1, by omega⟩
 simp only [listP]
 rw [if_neg (by rw [List.length_drop]; omega), hp]; rfl
theorem listP_end {α : Type} {p : PR α} {most : Nat} {c : List UInt8} {xs : List α} {k n : Nat} (hk : c.length ≤ k) : tailP xs n (listP p most (c.drop k)) = .ok (xs, n) := by
 have : c.drop k = [] := List.drop_eq_nil_of_le hk
 rw [this]
 cases most <;> simp [listP, tailP]
theorem tailP_id {α : Type} (x : Except Nat (List α × Nat)) : tailP [] 0 x = x := by
 cases x with
 | error e => rfl
 | ok y => obtain ⟨l, m⟩ := y; simp [tailP]
end Go.Proofs.YthmoognbccfpiaaGreatDoor

/- Contracts: reading the elements of an offer; decoding an offer. -/
namespace Go.Proofs.YthmoognbccfpiaaGreatDoor
open Go Go.Sx Go.Proofs
set_option maxRecDepth 100000
set_option maxHeartbeats 4000000
set_option linter.unusedSimpArgs false

def shiftP {α : Type} (k : Nat) : Except Nat (α × Nat) → Except Nat (α × Nat)
 | .ok (v, m) => .ok (v, k + m)
 | .error e => .error e
theorem bindP_er {α β : Type} {p : PR α} {f : α → PR β} {r : List UInt8} {e : Nat} (h : p r = .error e) : bindP p f r = .error e := by unfold bindP; rw [h]
theorem bindP_st {α β : Type} {p : PR α} {f : α → PR β} {b : List UInt8} {n : Nat} {v : α} {k : Nat} (h : p (b.drop n) = .ok (v, k)) : bindP p f (b.drop n) = shiftP k (f v (b.drop (n + k))) := by
 unfold bindP; rw [h]
 simp only [List.drop_drop]
 cases f v (b.drop (n + k)) with
 | error e => rfl
 | ok y => rfl
theorem fits_at {α : Type} {p : PR α} (hp : FitsP p) {b : List UInt8} {n : Nat} (hn : n ≤ b.length) {v : α} {k : Nat} (h : p (b.drop n) = .ok (v, k)) : n + k ≤ b.length := by
 have := hp _ _ _ h
 rw [List.length_drop] at this; omega
end Go.Proofs.YthmoognbccfpiaaGreatDoor

/- Contracts: decoding an offer. -/
namespace Go.Proofs.YthmoognbccfpiaaGreatDoor
open Go Go.Sx Go.Proofs
set_option maxRecDepth 100000
set_option maxHeartbeats 4000000
set_option linter.unusedSimpArgs false

def OkP {α : Type} (p : PR α) (Q : α → Prop) : Prop := ∀ r v m, r.length ≤ 1099511627776 → p r = .ok (v, m) → Q v
theorem okP_rd {α : Type} {tag : UInt8} {dec : List UInt8 → Option α} {Q : α → Prop} (h : ∀ c v, c.length ≤ 1099511627776 → dec c = some v → Q v) : OkP (rdP tag dec) Q := fun r v m hr hx => by
 obtain ⟨_, h2, _⟩ := rdP_ok hx
 exact h _ v (Nat.le_trans (takeC_len r) hr) h2
theorem okP_in {α : Type} {tag : UInt8} {p : PR α} {Q : α → Prop} (h : OkP p Q) : OkP (inP tag p) Q := fun r v m hr hx => by
 rcases inP_cases (tag := tag) (p := p) (r := r) with ⟨_, e⟩ | ⟨_, _, _, e⟩ | ⟨_, _, _, _, _, e⟩ | ⟨_, u, k, g, _, e⟩ <;> rw [e] at hx <;> cases hx
 exact h _ _ _ (Nat.le_trans (takeC_len r) hr) g
theorem okP_need {α : Type} {n : Nat} {p : PR α} {Q : α → Prop} (h : OkP p Q) : OkP (needP n p) Q := fun r v m hr hx => by
 unfold needP at hx
 split at hx
 · exact okP_in h r v m hr hx
 · cases hx
theorem okP_dflt {α : Type} {d : α} {n : Nat} {p : PR α} {Q : α → Prop} (hd : Q d) (h : OkP p Q) : OkP (dfltP d n p) Q := fun r v m hr hx => by
 cases hb : nextB n r with
 | false => rw [dfltP_no hb] at hx; cases hx; exact hd
 | true => rw [dfltP_in hb] at hx; exact okP_in h r v m hr hx
theorem okP_bind {α β : Type} {p : PR α} {f : α → PR β} {Q1 : α → Prop} {Q : β → Prop} (hp : OkP p Q1) (hf : ∀ v, Q1 v → OkP (f v) Q) : OkP (bindP p f) Q := fun r v m hr hx => by
 unfold bindP at hx
 cases h1 : p r with
 | error e => rw [h1] at hx; cases hx
 | ok y =>
  obtain ⟨u, k⟩ := y
  rw [h1] at hx
  simp only at hx
  cases h2 : f u (r.drop k) with
  | error e => rw [h2] at hx; cases hx
  | ok z =>
   obtain ⟨w, l⟩ := z
   rw [h2] at hx; cases hx
   exact hf u (hp r u k hr h1) _ _ _ (by rw [List.length_drop]; omega) h2
theorem okP_ret {α : Type} {v : α} {Q : α → Prop} (h : Q v) : OkP (retP v) Q := fun r u m _ hx => by cases hx; exact h
theorem okP_list {α : Type} {p : PR α} {Q : α → Prop} (hp : OkP p Q) : ∀ n, OkP (listP p n) fun l => l.length ≤ n ∧ ∀ x ∈ l, Q x
 | 0, r, v, m, _, hx => by
  simp only [listP] at hx
  split at hx
  · cases hx; exact ⟨Nat.le_refl _, by simp⟩
  · cases hx
 | n + 1, r, v, m, hr, hx => by
  simp only [listP] at hx
  split at hx
  · cases hx; exact ⟨by simp, by simp⟩
  · cases h1 : p r with
    | error e => rw [h1] at hx; cases hx
    | ok y =>
     obtain ⟨u, k⟩ := y
     rw [h1] at hx
     simp only at hx
     cases h2 : listP p n (r.drop k) with
     | error e => rw [h2] at hx; cases hx
     | ok z =>
      obtain ⟨w, l⟩ := z
      rw [h2] at hx; cases hx
      have h3 := okP_list hp n _ _ _ (by rw [List.length_drop]; omega) h2
      exact ⟨by simp; exact h3.1, fun x hxm => by
       rcases List.mem_cons.1 hxm with rfl | hm
       · exact hp r _ k hr h1
       · exact h3.2 x hm⟩
theorem okP_true {α : Type} {p : PR α} : OkP p fun _ => True := fun _ _ _ _ _ => trivial
theorem okP_str : OkP strP fun s => s.size ≤ 1099511627776 := okP_rd fun c v hc hd => by
 unfold decStr at hd; cases hd
 show c.toArray.size ≤ _
 simpa using hc
theorem new_c (b : List UInt8) (hb : b.length ≤ 140737488355328) : PE Tryz.prog 96 [.isl .u8 b] [] (.ret (.ptr 0 0)) [rdr b 0] := by
 refine pe_seal (by simp) ?_
 refine runE mixed fi96 ?_
 refine callI_pure (bclone_c b hb) ?_
 refine goE mixed ?_
 refine effE mixed [] (inner_c b) ?_; trivial
theorem equal_d (a b : List UInt8) : PC Tryz.prog 99 [.isl .u8 a, .isl .u8 b] (rB (decide (a = b))) := by
 refine pc_of rfl rfl ?_
 refine runE mixed fi99 ?_
 exact decide_eq_decide.2 ⟨fun h => by simpa [strOf] using h, fun h => by rw [h]⟩
end Go.Proofs.YthmoognbccfpiaaGreatDoor

/- Contracts: reading that leaves by a panic with a number: fields, keys. -/
namespace Go.Proofs.YthmoognbccfpiaaGreatDoor
open Go Go.Sx Go.Proofs
set_option maxRecDepth 100000
set_option maxHeartbeats 4000000
set_option linter.unusedSimpArgs false

@[go_sem] abbrev errV (e : Int) : SV := .iface 36 (rI e)
def EffX (P : Program) {α : Type} (f : FuncId) (args : List SV) (b : List UInt8) (n : Nat) (res : α → SV) : Except Nat (α × Nat) → Prop
 | .ok (v, k) => PE P f args [rdr b n] (.ret (res v)) [rdr b (n + k)]
 | .error e => PE P f args [rdr b n] (.pan (errV e)) [.dead]
theorem effX_ok {P : Program} {α : Type} {f : FuncId} {args : List SV} {b : List UInt8} {n : Nat} {res : α → SV} {x : Except Nat (α × Nat)} {v : α} {k : Nat} (h : EffX P f args b n res x) (hx : x = .ok (v, k)) : PE P f args [rdr b n] (.ret (res v)) [rdr b (n + k)] := by rw [hx] at h; exact h
theorem effX_er {P : Program} {α : Type} {f : FuncId} {args : List SV} {b : List UInt8} {n : Nat} {res : α → SV} {x : Except Nat (α × Nat)} {e : Nat} (h : EffX P f args b n res x) (hx : x = .error e) : PE P f args [rdr b n] (.pan (errV e)) [.dead] := by rw [hx] at h; exact h
theorem must_dint (v : Value) : PC Tryz.prog 249 [.raw v, rI 0] (.raw v) := by
 refine pc_of rfl rfl ?_
 refine runE mixed fi249 ?_; trivial
theorem must_er_dint (v : Value) (e : Nat) (he : e ≠ 0) : PE Tryz.prog 249 [.raw v, rI e] [] (.pan (errV e)) [] := by
 refine pe_seal (by simp) ?_
 refine runE mixed fi249 ?_
 exact ⟨fun _ => trivial, fun h => absurd (by omega) he⟩
theorem must_dbytes (v : List UInt8) : PC Tryz.prog 250 [.isl .u8 v, rI 0] (.isl .u8 v) := by
 refine pc_of rfl rfl ?_
 refine runE mixed fi250 ?_; trivial
theorem must_er_dbytes (v : List UInt8) (e : Nat) (he : e ≠ 0) : PE Tryz.prog 250 [.isl .u8 v, rI e] [] (.pan (errV e)) [] := by
 refine pe_seal (by simp) ?_
 refine runE mixed fi250 ?_
 exact ⟨fun _ => trivial, fun h => absurd (by omega) he⟩
theorem must_nstr (v : Value) : PC Tryz.prog 213 [.raw v, rI 0] (.raw v) := by
 refine pc_of rfl rfl ?_
 refine runE mixed fi213 ?_; trivial
theorem must_er_nstr (v : Value) (e : Nat) (he : e ≠ 0) : PE Tryz.prog 213 [.raw v, rI e] [] (.pan (errV e)) [] := by
 refine pe_seal (by simp) ?_
 refine runE mixed fi213 ?_
 exact ⟨fun _ => trivial, fun h => absurd (by omega) he⟩
theorem must_drdr (b : List UInt8) (n : Nat) : PE Tryz.prog 203 [.ptr 0 0, rI 0] [rdr b n] (.ret (.ptr 0 0)) [rdr b n] := by
 refine pe_seal (by simp) ?_
 refine runE mixed fi203 ?_; trivial
theorem must_er_drdr (e : Nat) (he : e ≠ 0) : PE Tryz.prog 203 [.raw (.pointer none), rI e] [] (.pan (errV e)) [] := by
 refine pe_seal (by simp) ?_
 refine runE mixed fi203 ?_
 exact ⟨fun _ => trivial, fun h => absurd (by omega) he⟩
theorem must_nrdr (b : List UInt8) (n : Nat) : PE Tryz.prog 211 [.ptr 0 0, rI 0] [rdr b n] (.ret (.ptr 0 0)) [rdr b n] := by
 refine pe_seal (by simp) ?_
 refine runE mixed fi211 ?_; trivial
theorem must_er_nrdr (e : Nat) (he : e ≠ 0) : PE Tryz.prog 211 [.raw (.pointer none), rI e] [] (.pan (errV e)) [] := by
 refine pe_seal (by simp) ?_
 refine runE mixed fi211 ?_
 exact ⟨fun _ => trivial, fun h => absurd (by omega) he⟩
theorem dend_t (b : List UInt8) (n : Nat) (hn : n = b.length) : PE Tryz.prog 208 [.ptr 0 0] [rdr b n] (.ret (.tup [])) [rdr b n] := by
 have he := left_c b n (by omega)
 refine pe_seal (by simp) ?_
 refine runE mixed fi208 ?_
 refine effE mixed [0] (he) ?_
 exact ⟨fun q => absurd q (by omega), fun _ => trivial⟩
theorem dend_f (b : List UInt8) (n : Nat) (hn : n < b.length) : PE Tryz.prog 208 [.ptr 0 0] [rdr b n] (.pan (errV 6)) [.dead] := by
 have he := left_c b n (by omega)
 refine pe_seal (by simp) ?_
 refine runE mixed fi208 ?_
 refine effE mixed [0] (he) ?_
 exact ⟨fun _ => trivial, fun q => absurd (by omega) q⟩
theorem needP_no {α : Type} {n : Nat} {p : PR α} {r : List UInt8} (h : nextB n r = false) : needP n p r = .error (if r.length = 0 then 4 else 6) := by unfold needP; rw [h]; rfl
theorem needP_in {α : Type} {n : Nat} {p : PR α} {r : List UInt8} (h : nextB n r = true) : needP n p r = inP (tagB n) p r := by unfold needP; rw [h]; rfl
def closeP {α : Type} (l N : Nat) : Except Nat (α × Nat) → Except Nat (α × Nat)
 | .ok (v, m) => if m < l then .error 6 else .ok (v, N)
 | .error e => .error e
theorem inP_t {α : Type} {tag : UInt8} {p : PR α} {r : List UInt8} (h : takeE tag r = 0) : inP tag p r = closeP (takeC r).length (takeN r) (p (takeC r)) := by
 unfold inP allP
 rw [if_pos h]
 cases p (takeC r) with
 | error e => rfl
 | ok x =>
  obtain ⟨v, m⟩ := x
  simp only [closeP]
  by_cases hm : m < (takeC r).length <;> simp [hm]
theorem inP_f {α : Type} {tag : UInt8} {p : PR α} {r : List UInt8} (h : takeE tag r ≠ 0) : inP tag p r = .error (takeE tag r) := by
 unfold inP
 rw [if_neg h]
theorem fint_c (i : Nat) (hi : i ≤ 30) (b : List UInt8) (n : Nat) (hn : n ≤ b.length) (hb : b.length ≤ 1099511627776) : EffX Tryz.prog 205 [.ptr 0 0, rI i, .fn 153 [] []] b n (fun v => rI v) (needP i intP (b.drop n)) := by
 cases h : nextB i (b.drop n) with
 | false =>
  rw [needP_no h, List.length_drop]
  have hs := rtag_no i hi b n hn h
  have hl := left_c b n hn
  generalize b.length - n = q at *
  refine pe_seal (by simp) ?_
  refine runE mixed fi205 ?_
  refine effE mixed [0] (hs) ?_
  refine effE mixed [0] (hl) ?_
  by_cases hq : q = 0
  · simp [hq]
  · simp [hq]
 | true =>
  rw [needP_in h]
  by_cases h1 : takeE (tagB i) (b.drop n) = 0
  · rw [inP_t h1]
    have hs := rtag_ok i hi b n hn hb h h1
    have hc := tkC_le (n := n) hb
    generalize takeC (b.drop n) = c at *
    generalize takeN (b.drop n) = N at *
    cases hx : intP c with
    | error e =>
     have hr := rint_er c 0 (Nat.zero_le _) hc (by rw [List.drop_zero]; exact hx)
     refine pe_seal (by simp) ?_
     refine runE mixed fi205 ?_
     refine effE mixed [0] (hs) ?_
     refine effE mixed [1] (hr) ?_
     refine effP [] (must_er_dint (.int .i64 0) e (rdP_ne hx)) ?_; trivial
    | ok x =>
     obtain ⟨v, m⟩ := x
     have hm := rdP_fits _ _ _ hx
     have hr := rint_ok c 0 (Nat.zero_le _) hc (by rw [List.drop_zero]; exact hx)
     have hl := left_c c m hm
     rw [Nat.zero_add] at hr
     simp only [closeP]
     by_cases hml : m < c.length
     · rw [if_pos hml]
       refine pe_seal (by simp) ?_
       refine runE mixed fi205 ?_
       refine effE mixed [0] (hs) ?_
       refine effE mixed [1] (hr) ?_
       refine callI_pure (must_dint _) ?_
       refine goE mixed ?_
       refine effP [1] (dend_f c m hml) ?_
       rfl
     · rw [if_neg hml]
       refine pe_seal (by simp) ?_
       refine runE mixed fi205 ?_
       refine effE mixed [0] (hs) ?_
       refine effE mixed [1] (hr) ?_
       refine callI_pure (must_dint _) ?_
       refine goE mixed ?_
       refine effE mixed [1] (dend_t c m (by omega)) ?_; trivial
  · rw [inP_f h1]
    have hs := rtag_er i hi b n hn hb h h1
    generalize takeE (tagB i) (b.drop n) = e at *
    refine pe_seal (by simp) ?_
    refine runE mixed fi205 ?_
    refine effE mixed [0] (hs) ?_
    exact ⟨fun _ => trivial, fun q => absurd (by omega) h1⟩
theorem foct_c (i : Nat) (hi : i ≤ 30) (b : List UInt8) (n : Nat) (hn : n ≤ b.length) (hb : b.length ≤ 1099511627776) : EffX Tryz.prog 206 [.ptr 0 0, rI i, .fn 207 [] []] b n (fun v => .isl .u8 v) (needP i octP (b.drop n)) := by
 cases h : nextB i (b.drop n) with
 | false =>
  rw [needP_no h, List.length_drop]
  have hs := rtag_no i hi b n hn h
  have hl := left_c b n hn
  generalize b.length - n = q at *
  refine pe_seal (by simp) ?_
  refine runE mixed fi206 ?_
  refine effE mixed [0] (hs) ?_
  refine effE mixed [0] (hl) ?_
  by_cases hq : q = 0
  · simp [hq]
  · simp [hq]
 | true =>
  rw [needP_in h]
  by_cases h1 : takeE (tagB i) (b.drop n) = 0
  · rw [inP_t h1]
    have hs := rtag_ok i hi b n hn hb h h1
    have hc := tkC_le (n := n) hb
    generalize takeC (b.drop n) = c at *
    generalize takeN (b.drop n) = N at *
    cases hx : octP c with
    | error e =>
     have hr := roct_er c 0 (Nat.zero_le _) hc (by rw [List.drop_zero]; exact hx)
     refine pe_seal (by simp) ?_
     refine runE mixed fi206 ?_
     refine effE mixed [0] (hs) ?_
     refine effE mixed [1] (hr) ?_
     refine effP [] (must_er_dbytes [] e (rdP_ne hx)) ?_; trivial
    | ok x =>
     obtain ⟨v, m⟩ := x
     have hm := rdP_fits _ _ _ hx
     have hr := roct_ok c 0 (Nat.zero_le _) hc (by rw [List.drop_zero]; exact hx)
     have hl := left_c c m hm
     rw [Nat.zero_add] at hr
     simp only [closeP]
     by_cases hml : m < c.length
     · rw [if_pos hml]
       refine pe_seal (by simp) ?_
       refine runE mixed fi206 ?_
       refine effE mixed [0] (hs) ?_
       refine effE mixed [1] (hr) ?_
       refine callI_pure (must_dbytes _) ?_
       refine goE mixed ?_
       refine effP [1] (dend_f c m hml) ?_
       rfl
     · rw [if_neg hml]
       refine pe_seal (by simp) ?_
       refine runE mixed fi206 ?_
       refine effE mixed [0] (hs) ?_
       refine effE mixed [1] (hr) ?_
       refine callI_pure (must_dbytes _) ?_
       refine goE mixed ?_
       refine effE mixed [1] (dend_t c m (by omega)) ?_; trivial
  · rw [inP_f h1]
    have hs := rtag_er i hi b n hn hb h h1
    generalize takeE (tagB i) (b.drop n) = e at *
    refine pe_seal (by simp) ?_
    refine runE mixed fi206 ?_
    refine effE mixed [0] (hs) ?_
    exact ⟨fun _ => trivial, fun q => absurd (by omega) h1⟩
theorem fstr_c (i : Nat) (hi : i ≤ 30) (b : List UInt8) (n : Nat) (hn : n ≤ b.length) (hb : b.length ≤ 1099511627776) : EffX Tryz.prog 215 [.ptr 0 0, rI i, .fn 214 [] []] b n (fun v => rS v) (needP i strP (b.drop n)) := by
 cases h : nextB i (b.drop n) with
 | false =>
  rw [needP_no h, List.length_drop]
  have hs := rtag_no i hi b n hn h
  have hl := left_c b n hn
  generalize b.length - n = q at *
  refine pe_seal (by simp) ?_
  refine runE mixed fi215 ?_
  refine effE mixed [0] (hs) ?_
  refine effE mixed [0] (hl) ?_
  by_cases hq : q = 0
  · simp [hq]
  · simp [hq]
 | true =>
  rw [needP_in h]
  by_cases h1 : takeE (tagB i) (b.drop n) = 0
  · rw [inP_t h1]
    have hs := rtag_ok i hi b n hn hb h h1
    have hc := tkC_le (n := n) hb
    generalize takeC (b.drop n) = c at *
    generalize takeN (b.drop n) = N at *
    cases hx : strP c with
    | error e =>
     have hr := rstr_er c 0 (Nat.zero_le _) hc (by rw [List.drop_zero]; exact hx)
     refine pe_seal (by simp) ?_
     refine runE mixed fi215 ?_
     refine effE mixed [0] (hs) ?_
     refine effE mixed [1] (hr) ?_
     refine effP [] (must_er_nstr (.string ⟨#[]⟩) e (rdP_ne hx)) ?_; trivial
    | ok x =>
     obtain ⟨v, m⟩ := x
     have hm := rdP_fits _ _ _ hx
     have hr := rstr_ok c 0 (Nat.zero_le _) hc (by rw [List.drop_zero]; exact hx)
     have hl := left_c c m hm
     rw [Nat.zero_add] at hr
     simp only [closeP]
     by_cases hml : m < c.length
     · rw [if_pos hml]
       refine pe_seal (by simp) ?_
       refine runE mixed fi215 ?_
       refine effE mixed [0] (hs) ?_
       refine effE mixed [1] (hr) ?_
       refine callI_pure (must_nstr _) ?_
       refine goE mixed ?_
       refine effE mixed [1] (hl) ?_
       exact ⟨fun _ => rfl, fun q => absurd (by omega) q⟩
     · rw [if_neg hml]
       refine pe_seal (by simp) ?_
       refine runE mixed fi215 ?_
       refine effE mixed [0] (hs) ?_
       refine effE mixed [1] (hr) ?_
       refine callI_pure (must_nstr _) ?_
       refine goE mixed ?_
       refine effE mixed [1] (hl) ?_
       exact ⟨fun q => absurd q (by omega), fun _ => trivial⟩
  · rw [inP_f h1]
    have hs := rtag_er i hi b n hn hb h h1
    generalize takeE (tagB i) (b.drop n) = e at *
    refine pe_seal (by simp) ?_
    refine runE mixed fi215 ?_
    refine effE mixed [0] (hs) ?_
    exact ⟨fun _ => trivial, fun q => absurd (by omega) h1⟩
end Go.Proofs.YthmoognbccfpiaaGreatDoor

/- Contracts: reading a key. -/
namespace Go.Proofs.YthmoognbccfpiaaGreatDoor
open Go Go.Sx Go.Proofs
set_option maxRecDepth 100000
set_option maxHeartbeats 4000000
set_option linter.unusedSimpArgs false

def zO {α : Type} (res : α → SV) : Except Nat (α × Nat) → Out
 | .ok (v, _) => .ret (res v)
 | .error e => .pan (errV e)
def zH {α : Type} (b : List UInt8) (n m : Nat) : Except Nat (α × Nat) → List SObj
 | .ok (_, k) => [rdr b (n + k)]
 | .error _ => [rdr b m]
attribute [go_sem] zO zH
def EffZ (P : Program) {α : Type} (f : FuncId) (args : List SV) (b : List UInt8) (n m : Nat) (res : α → SV) (x : Except Nat (α × Nat)) : Prop := PE P f args [rdr b n] (zO res x) (zH b n m x)
theorem effZ_of {P : Program} {α : Type} {f : FuncId} {args : List SV} {b : List UInt8} {n m : Nat} {res : α → SV} {x : Except Nat (α × Nat)} (h : VC P f args [rdr b n] (SealO (zO res x) (zH b n m x))) : EffZ P f args b n m res x := by
 cases x with
 | error e => exact pe_seal (by simp [zH]) h
 | ok y => exact pe_seal (by simp [zH]) h
theorem effZ_ok {P : Program} {α : Type} {f : FuncId} {args : List SV} {b : List UInt8} {n m : Nat} {res : α → SV} {x : Except Nat (α × Nat)} {v : α} {k : Nat} (h : EffZ P f args b n m res x) (hx : x = .ok (v, k)) : PE P f args [rdr b n] (.ret (res v)) [rdr b (n + k)] := by rw [hx] at h; exact h
theorem effZ_er {P : Program} {α : Type} {f : FuncId} {args : List SV} {b : List UInt8} {n m : Nat} {res : α → SV} {x : Except Nat (α × Nat)} {e : Nat} (h : EffZ P f args b n m res x) (hx : x = .error e) : PE P f args [rdr b n] (.pan (errV e)) [rdr b m] := by rw [hx] at h; exact h
def posX (b : List UInt8) (n : Nat) : Nat := if takeE 48 (b.drop n) = 0 then n + takeN (b.drop n) else n
theorem posX_t {b : List UInt8} {n : Nat} (h : takeE 48 (b.drop n) = 0) : posX b n = n + takeN (b.drop n) := if_pos h
theorem posX_f {b : List UInt8} {n : Nat} (h : takeE 48 (b.drop n) ≠ 0) : posX b n = n := if_neg h
def tripIn : PR Key := bindP (needP 0 intP) fun a => bindP (needP 1 intP) fun k => bindP (needP 2 octP) fun c => retP ((a, k, c) : Key)
def keyP : PR Key := inP 48 tripIn
theorem bindP_s0 {α β : Type} {p : PR α} {f : α → PR β} {b : List UInt8} {v : α} {k : Nat} (h : p b = .ok (v, k)) : bindP p f b = shiftP k (f v (b.drop k)) := by
 have := bindP_st (f := f) (b := b) (n := 0) (by rw [List.drop_zero]; exact h)
 rwa [List.drop_zero, Nat.zero_add] at this
theorem rtriple_c (b : List UInt8) (n : Nat) (hn : n ≤ b.length) (hb : b.length ≤ 1099511627776) :
 EffZ Tryz.prog 165 [.ptr 0 0] b n (posX b n) (fun v : Key => .tup [rI v.1, rI v.2.1, .isl .u8 v.2.2]) (keyP (b.drop n)) := by
 unfold keyP
 by_cases h : takeE 48 (b.drop n) = 0
 · have hs := rseq_ok b n hn hb h
   have hc := tkC_le (n := n) hb
   rw [inP_t h, posX_t h]
   generalize takeC (b.drop n) = c at *
   generalize takeN (b.drop n) = N at *
   unfold tripIn
   refine effZ_of ?_
   refine runE mixed fi165 ?_
   refine effE mixed [0] (hs) ?_
   refine effE mixed [1] (must_drdr c 0) ?_
   have e1 := fint_c 0 (by omega) c 0 (Nat.zero_le _) hc
   rw [List.drop_zero] at e1
   cases h1 : needP 0 intP c with
   | error e =>
    rw [bindP_er h1]
    have e1' := effX_er e1 h1
    simp only [closeP]
    refine effP [1] (e1') ?_; trivial
   | ok x =>
    obtain ⟨v1, k1⟩ := x
    rw [bindP_s0 h1]
    have e1' := effX_ok e1 h1
    have f1 := needP_fits _ _ _ h1
    rw [Nat.zero_add] at e1'
    refine effE mixed [1] (e1') ?_
    have e2 := fint_c 1 (by omega) c _ f1 hc
    cases h2 : needP 1 intP (c.drop k1) with
    | error e =>
     rw [bindP_er h2]
     have e2' := effX_er e2 h2
     simp only [shiftP, closeP]
     refine effP [1] (e2') ?_; trivial
    | ok x =>
     obtain ⟨v2, k2⟩ := x
     rw [bindP_st h2]
     have e2' := effX_ok e2 h2
     have f2 := fits_at needP_fits f1 h2
     refine effE mixed [1] (e2') ?_
     have e3 := foct_c 2 (by omega) c _ f2 hc
     cases h3 : needP 2 octP (c.drop (k1 + k2)) with
     | error e =>
      rw [bindP_er h3]
      have e3' := effX_er e3 h3
      simp only [shiftP, closeP]
      refine effP [1] (e3') ?_; trivial
     | ok x =>
      obtain ⟨v3, k3⟩ := x
      rw [bindP_st h3]
      have e3' := effX_ok e3 h3
      have f3 := fits_at needP_fits f2 h3
      simp only [shiftP, retP, closeP]
      refine effE mixed [1] (e3') ?_
      by_cases hm : k1 + k2 + k3 < c.length
      · rw [if_pos (by omega)]
        refine effP [1] (dend_f c _ hm) ?_
        rfl
      · rw [if_neg (by omega)]
        refine effE mixed [1] (dend_t c (k1 + k2 + k3) (by omega)) ?_; trivial
 · have hs := rseq_er b n hn hb h
   rw [inP_f h, posX_f h]
   generalize takeE 48 (b.drop n) = e at *
   refine effZ_of ?_
   refine runE mixed fi165 ?_
   refine effE mixed [0] (hs) ?_
   refine effP [] (must_er_drdr e h) ?_; trivial
end Go.Proofs.YthmoognbccfpiaaGreatDoor

/- The plain law of reading: keys. -/
namespace Go.Proofs.YthmoognbccfpiaaGreatDoor
open Go Go.Sx Go.Proofs
set_option maxRecDepth 100000
set_option maxHeartbeats 4000000
set_option linter.unusedSimpArgs false

theorem wrapS_tlv {n : Nat} {b : List UInt8} (hn : n ≤ 30) (h : b.length ≤ 16777215) (h0 : b ≠ []) : wrapS 160 n b = tlv (tagB n) b := by rw [wrapS_ok hn h, if_neg h0]
theorem tlv_ne {t : UInt8} {c : List UInt8} : tlv t c ≠ [] := by simp [tlv]
theorem keyS_tlv (a v : Int) (c : List UInt8) (ha : 0 ≤ a ∧ a ≤ 1048576) (hv : 0 ≤ v ∧ v ≤ 1048576) (hc : c.length ≤ 65536) : keyS (a, v, c) = tlv 48 (sufS [intS a, intS v, elemS 4 [c]] 0 3) ∧ (sufS [intS a, intS v, elemS 4 [c]] 0 3).length ≤ 16777215 := by
 have i1 := intS_len a
 have i2 := intS_len v
 obtain ⟨c1, e1, _⟩ := intS_i (v := a) (by omega)
 obtain ⟨c2, e2, _⟩ := intS_i (v := v) (by omega)
 have e3 : elemS 4 [c] = tlv 4 c := elemS_ok (by omega)
 have w3 := elemS_len 4 [c]
 simp only [List.flatten_cons, List.flatten_nil, List.append_nil] at w3
 have w0 := wrapS_len 160 0 (intS a)
 have w1 := wrapS_len 160 1 (intS v)
 have w2 := wrapS_len 160 2 (elemS 4 [c])
 have n0 : wrapS 160 0 (intS a) ≠ [] := by rw [show (0 : Int) = ((0 : Nat) : Int) from rfl, wrapS_tlv (by omega) (by omega) (by rw [e1]; exact tlv_ne)]; exact tlv_ne
 have n1 : wrapS 160 1 (intS v) ≠ [] := by rw [show (1 : Int) = ((1 : Nat) : Int) from rfl, wrapS_tlv (by omega) (by omega) (by rw [e2]; exact tlv_ne)]; exact tlv_ne
 have n2 : wrapS 160 2 (elemS 4 [c]) ≠ [] := by rw [show (2 : Int) = ((2 : Nat) : Int) from rfl, wrapS_tlv (by omega) (by omega) (by rw [e3]; exact tlv_ne)]; exact tlv_ne
 have hf : (tagN [intS a, intS v, elemS 4 [c]] 3).flatten = sufS [intS a, intS v, elemS 4 [c]] 0 3 := sufS_all [intS a, intS v, elemS 4 [c]]
 have ht : tagN [intS a, intS v, elemS 4 [c]] 3 = [wrapS 160 0 (intS a), wrapS 160 1 (intS v), wrapS 160 2 (elemS 4 [c])] := by simp [tagN, List.range_succ]
 have hl : (sufS [intS a, intS v, elemS 4 [c]] 0 3).length ≤ 16777215 := by
  rw [← hf, ht]
  simp only [List.flatten_cons, List.flatten_nil, List.append_nil, List.length_append]
  omega
 refine ⟨?_, hl⟩
 have hfull : allN 3 (fullAt [wrapS 160 0 (intS a), wrapS 160 1 (intS v), wrapS 160 2 (elemS 4 [c])]) = true := by
  refine allN_true fun j hj => ?_
  match j, hj with
  | 0, _ => exact decide_eq_true n0
  | 1, _ => exact decide_eq_true n1
  | 2, _ => exact decide_eq_true n2
 show wholeS [wrapS 160 0 (intS a), wrapS 160 1 (intS v), wrapS 160 2 (elemS 4 [c])] = _
 unfold wholeS
 rw [show ([wrapS 160 0 (intS a), wrapS 160 1 (intS v), wrapS 160 2 (elemS 4 [c])] : List (List UInt8)).length = 3 from rfl, if_pos hfull, ← ht, elemS_flat (by rw [hf]; exact hl), hf]
theorem keyP_at (a v : Int) (c : List UInt8) (ha : 0 ≤ a ∧ a ≤ 1048576) (hv : 0 ≤ v ∧ v ≤ 1048576) (hc : c.length ≤ 65536) (r : List UInt8) : keyP (keyS (a, v, c) ++ r) = .ok ((a, v, c), (keyS (a, v, c)).length) := by
 have i1 := intS_len a
 have i2 := intS_len v
 obtain ⟨c1, e1, _⟩ := intS_i (v := a) (by omega)
 obtain ⟨c2, e2, _⟩ := intS_i (v := v) (by omega)
 have e3 : elemS 4 [c] = tlv 4 c := elemS_ok (by omega)
 have w3 := elemS_len 4 [c]
 simp only [List.flatten_cons, List.flatten_nil, List.append_nil] at w3
 have hL : ∀ j, (([intS a, intS v, elemS 4 [c]] : List (List UInt8)).getD j []).length ≤ 16777215 := fun j => by
  match j with
  | 0 => show (intS a).length ≤ _; omega
  | 1 => show (intS v).length ≤ _; omega
  | 2 => show (elemS 4 [c]).length ≤ _; omega
  | j + 3 => exact Nat.zero_le _
 obtain ⟨hS, hin⟩ := keyS_tlv a v c ha hv hc
 rw [hS]
 refine inP_tlv hin ?_ r
 have q0 : intP (([intS a, intS v, elemS 4 [c]] : List (List UInt8)).getD 0 []) = .ok (a, (([intS a, intS v, elemS 4 [c]] : List (List UInt8)).getD 0 []).length) := full (e := intS a) (intP_ok (by omega))
 have q1 : intP (([intS a, intS v, elemS 4 [c]] : List (List UInt8)).getD 1 []) = .ok (v, (([intS a, intS v, elemS 4 [c]] : List (List UInt8)).getD 1 []).length) := full (e := intS v) (intP_ok (by omega))
 have q2 : octP (([intS a, intS v, elemS 4 [c]] : List (List UInt8)).getD 2 []) = .ok (c, (([intS a, intS v, elemS 4 [c]] : List (List UInt8)).getD 2 []).length) := full (e := elemS 4 [c]) (octP_ok (by omega))
 have n0 : ([intS a, intS v, elemS 4 [c]] : List (List UInt8)).getD 0 [] ≠ [] := by show intS a ≠ []; rw [e1]; exact tlv_ne
 have n1 : ([intS a, intS v, elemS 4 [c]] : List (List UInt8)).getD 1 [] ≠ [] := by show intS v ≠ []; rw [e2]; exact tlv_ne
 have n2 : ([intS a, intS v, elemS 4 [c]] : List (List UInt8)).getD 2 [] ≠ [] := by show elemS 4 _ ≠ []; rw [e3]; exact tlv_ne
 have g := bindP_ok (f := fun a => bindP (needP 1 intP) fun k => bindP (needP 2 octP) fun c => retP ((a, k, c) : Key)) (need_suf (k := 2) hL (by omega) n0 q0)
  (bindP_ok (f := fun k => bindP (needP 2 octP) fun c => retP ((a, k, c) : Key)) (need_suf (k := 1) hL (by omega) n1 q1)
   (bindP_ok (f := fun c => retP ((a, v, c) : Key)) (need_suf (k := 0) hL (by omega) n2 q2) rfl))
 show tripIn _ = _
 unfold tripIn
 rw [g]
 congr 2
 rw [sufS_succ, sufS_succ, sufS_succ]
 simp only [sufS, List.range'_zero, List.map_nil, List.flatten_nil, List.append_nil, List.length_append, Nat.zero_add, Nat.reduceAdd]
 omega
end Go.Proofs.YthmoognbccfpiaaGreatDoor

/- The plain law of reading: key sets. -/
namespace Go.Proofs.YthmoognbccfpiaaGreatDoor
open Go Go.Sx Go.Proofs
set_option maxRecDepth 100000
set_option maxHeartbeats 4000000
set_option linter.unusedSimpArgs false

theorem keyS_len (a v : Int) (c : List UInt8) : (keyS (a, v, c)).length ≤ c.length + 58 := by
 have i1 := intS_len a
 have i2 := intS_len v
 have w3 := elemS_len 4 [c]
 simp only [List.flatten_cons, List.flatten_nil, List.append_nil] at w3
 have w0 := wrapS_len 160 0 (intS a)
 have w1 := wrapS_len 160 1 (intS v)
 have w2 := wrapS_len 160 2 (elemS 4 [c])
 show (wholeS [wrapS 160 0 (intS a), wrapS 160 1 (intS v), wrapS 160 2 (elemS 4 [c])]).length ≤ _
 have w4 := elemS_len 48 [wrapS 160 0 (intS a), wrapS 160 1 (intS v), wrapS 160 2 (elemS 4 [c])]
 simp only [List.flatten_cons, List.flatten_nil, List.append_nil, List.length_append] at w4
 unfold wholeS
 split
 · omega
 · simp
theorem flat_len {α : Type} (f : α → List UInt8) (B : Nat) : ∀ l : List α, (∀ x ∈ l, (f x).length ≤ B) → (l.map f).flatten.length ≤ B * l.length
 | [], _ => by simp
 | x :: l, h => by
  have h1 := h x (by simp)
  have h2 := flat_len f B l fun y hy => h y (by simp [hy])
  simp only [List.map_cons, List.flatten_cons, List.length_append, List.length_cons, Nat.mul_add, Nat.mul_one]
  omega
def keyOk3 (a v : Int) (c : List UInt8) : Prop := (0 ≤ a ∧ a ≤ 1048576) ∧ (0 ≤ v ∧ v ≤ 1048576) ∧ c.length ≤ 65536
def keyOk : Key → Prop
 | (a, v, c) => keyOk3 a v c
theorem keyP_ok {k : Key} (h : keyOk k) (r : List UInt8) : keyP (keyS k ++ r) = .ok (k, (keyS k).length) := by
 obtain ⟨a, v, c⟩ := k
 exact keyP_at a v c h.1 h.2.1 h.2.2 r
theorem keyS_le {k : Key} (h : keyOk k) : (keyS k).length ≤ 65600 := by
 obtain ⟨a, v, c⟩ := k
 have h1 := keyS_len a v c
 have h2 : c.length ≤ 65536 := h.2.2
 exact Nat.le_trans h1 (by omega)
theorem keyS_ne {k : Key} (h : keyOk k) : keyS k ≠ [] := by
 obtain ⟨a, v, c⟩ := k
 rw [(keyS_tlv a v c h.1 h.2.1 h.2.2).1]
 exact tlv_ne
theorem tagS_tlv {l : List (List UInt8)} (h : (sufS l 0 l.length).length ≤ 16777215) : tagS l = tlv 48 (sufS l 0 l.length) := by
 unfold tagS
 rw [elemS_flat (by rw [sufS_all]; exact h), sufS_all]
theorem sufS_le {l : List (List UInt8)} : ∀ (k n : Nat), (sufS l n k).length ≤ ((List.range' n k).map fun j => (l.getD j []).length + 5).sum
 | 0, n => by simp [sufS]
 | k + 1, n => by
  rw [sufS_succ, List.range'_succ]
  have := wrapS_len 160 (n : Nat) (l.getD n [])
  have := sufS_le (l := l) k (n + 1)
  simp only [List.length_append, List.map_cons, List.sum_cons]
  omega
end Go.Proofs.YthmoognbccfpiaaGreatDoor

/- Contracts: the reference's encodings of any values, valid or not. -/
namespace Go.Proofs.YthmoognbccfpiaaGreatDoor
open Go Go.Sx Go.Proofs
set_option maxRecDepth 100000
set_option maxHeartbeats 4000000
set_option linter.unusedSimpArgs false

theorem byteOf_tm (x : Int) : UInt8.ofNat (IntKind.u8.wrap (x.tmod 256)).toNat = byteOf x := by
 unfold byteOf
 rw [u8w, u8w]
 have h : x.tmod 256 % 256 = x % 256 := by rw [Int.tmod_def]; omega
 rw [h]
def negB (v : Int) : List UInt8 := if 128 ≤ (byteOf v).toNat then [0, byteOf v] else [byteOf v]
def intR (v : Int) : List UInt8 := if 0 ≤ v ∧ v ≤ 4611686018427387904 then intS v else if v < 0 then elemS 2 [negB v] else elemS 2 [numS v 8]
theorem intR_ok {v : Int} (h : 0 ≤ v ∧ v ≤ 4611686018427387904) : intR v = intS v := if_pos h
theorem intR_len (v : Int) : (intR v).length ≤ 14 := by
 unfold intR
 split
 · exact intS_len v
 · have h1 := elemS_len 2 [negB v]
   have h2 := elemS_len 2 [numS v 8]
   simp only [List.flatten_cons, List.flatten_nil, List.append_nil, numS_length] at h1 h2
   have h3 : (negB v).length ≤ 2 := by unfold negB; split <;> simp
   split <;> omega
theorem rint_n (v : Int) (h0 : v < 0) (h1 : -9223372036854775808 ≤ v) : PC Tryz.prog 48 [rI v] (.isl .u8 (intR v)) := by
 have hr : intR v = elemS 2 [negB v] := by unfold intR; rw [if_neg (by omega), if_pos h0]
 obtain ⟨n, hn⟩ : ∃ n : Nat, v = -(n : Int) := ⟨(-v).toNat, by omega⟩
 have ht : v.tdiv 256 = -((n / 256 : Nat) : Int) := by rw [hn, Int.neg_tdiv, show (256 : Int) = ((256 : Nat) : Int) from rfl, b_quo]
 have hd : v.tdiv 256 ≤ 0 := by omega
 have hd1 : -9223372036854775808 ≤ v.tdiv 256 := by omega
 have q0 : IntKind.i64.wrap (v.tdiv 256) = v.tdiv 256 := wrapi (by omega)
 rw [hr]
 refine pc_seal rfl rfl ?_
 refine vc_fi fi48 (run_sound mixed 600 _ ?_)
 simp (maxSteps := 3000000) only [ir48, q0, go_sem, ↓zA, ↓reduceIte, ↓reduceDIte, reduceCtorEq, Nat.reduceAdd, Nat.reduceSub, Nat.reduceLeDiff, Nat.reduceLT, Nat.reduceEqDiff, Nat.reduceBEq, Nat.reduceMul, Int.reduceToNat, Int.reduceEq, Int.reduceLT, Int.reduceLE] <;> try simp only [zB]
 refine ⟨by decide, byte_ob _, by decide, ?_⟩
 rw [byteOf_tm]
 refine si_loopX (ι := Unit) (fun _ => [(0, rI (v.tdiv 256)), (3, .bld 0 .u8 1)]) (fun _ => [.row .u8 [byteOf v]]) (fun _ => 0) (fun _ => True) () trivial rfl ?_ ?_
 · with_reducible refine sxE ?_; trivial
 rintro ⟨⟩ _
 refine goE mixed ?_
 refine ⟨fun h => absurd h (by omega), fun _ => ?_⟩
 unfold negB
 refine ⟨fun h128 => ⟨rfl, ?_⟩, fun h128 => ?_⟩
 · rw [if_pos (by omega)]
   refine callI_hand 2 ?_
   with_reducible refine sxE ?_
   refine callI_pure (tlv_k 2 2 (by decide) _ (by simp)) ?_
   refine goE mixed ?_
   rfl
 · rw [if_neg (by omega)]
   refine callI_hand 0 ?_
   with_reducible refine sxE ?_
   refine callI_pure (tlv_k 2 2 (by decide) _ (by simp)) ?_
   refine goE mixed ?_; trivial
theorem rint_b (v : Int) (h0 : 4611686018427387904 < v) (h1 : v ≤ 9223372036854775807) : PC Tryz.prog 48 [rI v] (.isl .u8 (intR v)) := by
 have hr : intR v = elemS 2 [numS v 8] := by unfold intR; rw [if_neg (by omega), if_neg (by omega)]
 rw [hr]
 clear hr
 obtain ⟨n, rfl⟩ : ∃ n : Nat, v = n := ⟨v.toNat, by omega⟩
 refine pc_seal rfl rfl ?_
 have q0 : IntKind.i64.wrap ((n : Int).tdiv 256) = (qN n 1 : Int) := by rw [show (256 : Int) = ((256 : Nat) : Int) from rfl, b_quo, wrapi (by omega)]; rfl
 have h7 : 64 ≤ qN n 7 ∧ qN n 7 ≤ 127 := by unfold qN; constructor <;> omega
 have h8 : qN n 8 = 0 := by unfold qN; omega
 refine vc_fi fi48 (run_sound mixed 600 _ ?_)
 simp (maxSteps := 3000000) only [ir48, q0, go_sem, ↓zA, ↓reduceIte, ↓reduceDIte, reduceCtorEq, Nat.reduceAdd, Nat.reduceSub, Nat.reduceLeDiff, Nat.reduceLT, Nat.reduceEqDiff, Nat.reduceBEq, Nat.reduceMul, Int.reduceToNat, Int.reduceEq, Int.reduceLT, Int.reduceLE] <;> try simp only [zB]
 refine ⟨by decide, byte_ob _, by decide, ?_⟩
 rw [b_mod]
 have h0 : [byteOf (n : Int)] = numS n 1 := by simp [numS, byteAt]
 rw [h0]
 refine si_loopX (ι := Nat × List SObj) (fun x => [(0, rI (qN n (x.1 + 1) : Int)), (3, .bld x.2.length .u8 (x.1 + 1))]) (fun x => x.2 ++ [.row .u8 (numS n (x.1 + 1))]) (fun x => 8 - x.1) (fun x => x.1 ≤ 7) (0, []) (by omega) rfl ?_ ?_
 · with_reducible refine sxE ?_; trivial
 rintro ⟨j, G⟩ hj
 dsimp only at hj
 have hln : (numS (n : Int) (j + 1)).length = j + 1 := by simp [numS]
 have q1 : IntKind.i64.wrap ((qN n (j + 1) : Int).tdiv 256) = (qN n (j + 1 + 1) : Int) := by
  have h1 := qN_le n (j + 1 + 1)
  rw [show (256 : Int) = ((256 : Nat) : Int) from rfl, b_quo, ← qN_succ, wrapi (by omega)]
 have htk : List.take (j + 1) (numS (n : Int) (j + 1)) = numS n (j + 1) := List.take_of_length_le (by omega)
 refine run_sound mixed 600 _ ?_
 simp (maxSteps := 3000000) only [q1, hln, htk, List.append_assoc, getA, getA0, setA, setA0, List.length_append, Nat.add_assoc, go_sem, ↓zA, ↓reduceIte, ↓reduceDIte, reduceCtorEq, Nat.reduceAdd, Nat.reduceSub, Nat.reduceLeDiff, Nat.reduceLT, Nat.reduceEqDiff, Nat.reduceBEq, Nat.reduceMul, Int.reduceToNat, Int.reduceEq, Int.reduceLT, Int.reduceLE] <;> try simp only [zB]
 refine ⟨fun hp => ?_, fun hz => ?_⟩
 · have hj7 : j + 1 ≤ 7 := by
    rcases Nat.lt_or_ge j 7 with h | h
    · omega
    · exfalso
      obtain rfl : j = 7 := by omega
      have : qN n (7 + 1) = 0 := h8
      omega
   refine ⟨by decide, byte_ob _, ⟨Nat.le_refl _, by omega, by omega⟩, by decide, (j + 1, G ++ [.row .u8 (numS n (j + 1)), .dead]), hj7, by dsimp only; omega, ?_, ?_⟩
   · dsimp only
     rw [byteOf_tmod (by omega), ← byteAt_nat n (j + 1) (by omega), ← numS_succ, List.append_assoc]
     rfl
   · with_reducible refine sxaE ?_
     exact congrArg (SV.bld (G.length + 2) .u8) (by omega)
 · have hz0 : qN n (j + 1) = 0 := by omega
   have hj : j = 7 := by
    rcases Nat.lt_or_ge j 7 with h | h
    · exfalso
      have := qN_mono n (show j + 1 ≤ 7 by omega)
      omega
    · omega
   subst hj
   have hln8 : (numS (n : Int) 8).length = 8 := hln
   have htop : (numS (n : Int) 8).getD 0 Ty.u8.dflt = byteOf (qN n 7 : Int) := by
    rw [numS_succ, List.getD_cons_zero, byteAt_nat n 7 (by omega)]
   have htn : ((byteOf (qN n 7 : Int)).toNat : Int) = (qN n 7 : Int) := by
    unfold byteOf
    rw [byte_ob, u8w]; omega
   rw [htop, htn]
   refine ⟨by omega, by omega, fun h128 => absurd h128 (by omega), fun h128 => ?_⟩
   refine callI_hand G.length ?_
   with_reducible refine sxaE ?_
   refine ⟨by omega, by omega, ?_⟩
   rw [List.take_of_length_le (by omega)]
   refine callI_pure (tlv_k 2 2 (by decide) _ (by omega)) ?_
   refine goE mixed ?_; trivial
theorem rint_a (v : Int) (h : -9223372036854775808 ≤ v ∧ v ≤ 9223372036854775807) : PC Tryz.prog 48 [rI v] (.isl .u8 (intR v)) := by
 by_cases h0 : v < 0
 · exact rint_n v h0 h.1
 · by_cases h1 : v ≤ 4611686018427387904
   · rw [intR_ok ⟨by omega, h1⟩]; exact rint_i v ⟨by omega, h1⟩
   · exact rint_b v (by omega) h.2
theorem rapp_c (n : Int) (hn : 0 ≤ n ∧ n ≤ 100) (b : List UInt8) (hb : b.length ≤ 1048576) : PC Tryz.prog 45 [rI n, .isl .u8 b] (.isl .u8 (elemS (byteOf (96 + n)) [b])) := by
 have hw : IntKind.i64.wrap (96 + n) = 96 + n := wrapi (by omega)
 refine pc_seal rfl rfl ?_
 refine vc_fi fi45 (run_sound mixed 600 _ ?_)
 simp (maxSteps := 3000000) only [ir45, hw, go_sem, ↓zA, ↓reduceIte, ↓reduceDIte, reduceCtorEq, Nat.reduceAdd, Nat.reduceSub, Nat.reduceLeDiff, Nat.reduceLT, Nat.reduceEqDiff, Nat.reduceBEq, Nat.reduceMul, Int.reduceToNat, Int.reduceEq, Int.reduceLT, Int.reduceLE] <;> try simp only [zB]
 refine callI_pure (tlv_k (byteOf (96 + n)) (96 + n) rfl b hb) ?_
 refine goE mixed ?_; trivial
theorem strsN_fl {l : List ByteArray} {k : Nat} (hl : l.length ≤ 64) (h : ∀ x ∈ l, x.size ≤ 1000) : (strsN l k).flatten.length ≤ 64320 := by
 have h1 := flat_le (B := 1005) (strsN l k) (fun x hx => by
  unfold strsN at hx
  rw [List.mem_map] at hx
  obtain ⟨y, hy, rfl⟩ := hx
  have h2 := h y (List.mem_of_mem_take hy)
  have h3 := elemS_len 27 [y.data.toList]
  have h4 : y.data.toList.length = y.size := by simp
  simp only [List.flatten_cons, List.flatten_nil, List.append_nil] at h3
  omega)
 have h2 : (strsN l k).length ≤ 64 := by unfold strsN; simp; omega
 have : 1005 * (strsN l k).length ≤ 1005 * 64 := Nat.mul_le_mul_left _ h2
 omega
def shP (p : Prin) : Prop := p.1.length ≤ 64 ∧ (∀ x ∈ p.1, x.size ≤ 1000) ∧ p.2.size ≤ 1000
theorem prinS_sh {p : Prin} (h : shP p) : (prinS p).length ≤ 65400 := by
 obtain ⟨l, r⟩ := p
 obtain ⟨hl, hp, hr⟩ := h
 dsimp only at hl hp hr
 have hps : prinS (l, r) = elemS 48 [wrapS 160 0 (elemS 48 (strsN l l.length)), wrapS 160 1 (elemS 27 [r.data.toList])] := rfl
 have hf := strsN_fl (k := l.length) hl hp
 have g1 := elemS_len 48 (strsN l l.length)
 have g2 := elemS_len 27 [r.data.toList]
 have g3 : r.data.toList.length = r.size := by simp
 simp only [List.flatten_cons, List.flatten_nil, List.append_nil] at g2
 have g4 := wrapS_len 160 0 (elemS 48 (strsN l l.length))
 have g5 := wrapS_len 160 1 (elemS 27 [r.data.toList])
 have g6 := elemS_len 48 [wrapS 160 0 (elemS 48 (strsN l l.length)), wrapS 160 1 (elemS 27 [r.data.toList])]
 simp only [List.flatten_cons, List.flatten_nil, List.append_nil, List.length_append] at g6
 rw [hps]; omega
theorem rprin_a (p : Prin) (h : shP p) : PC Tryz.prog 50 [.agg (PrinT.cells p)] (.isl .u8 (prinS p)) := by
 obtain ⟨l, r⟩ := p
 obtain ⟨hl, hp, hr⟩ := h
 dsimp only at hl hp hr
 have hps : prinS (l, r) = elemS 48 [wrapS 160 0 (elemS 48 (strsN l l.length)), wrapS 160 1 (elemS 27 [r.data.toList])] := rfl
 generalize prinS (l, r) = ps at *
 refine pc_seal rfl rfl ?_
 refine runE mixed fi50 ?_
 refine si_accN 3 (.slice .u8) (strsN l) (fun i => [(4, rI i)]) l.length (fun _ => True) rfl (by simp) (by simp [strsN]) rfl (fun i => rfl) ?_ fun i hi _ => ?_
 · with_reducible refine sxE ?_; trivial
 have hwr : IntKind.i64.wrap ((i : Int) + 1) = ((i + 1 : Nat) : Int) := wrap_succ (by omega)
 have hln := strsN_len hi
 by_cases hlt : i < l.length
 · have hst := strsN_succ hlt
   have hsz := hp _ (getD_mem (d := Ty.str.dflt) hlt)
   refine goE mixed ?_
   refine ⟨fun _ => ⟨⟨by omega, hlt⟩, callI_pure (rstr_c _ (by omega)) ?_⟩, fun h => absurd hlt h⟩
   refine goE mixed ?_
   refine ⟨⟨by omega, by omega⟩, acc_next [_, _] [] hlt trivial (by rw [hst]; rfl) ?_⟩
   with_reducible refine sx3 hwr hst ?_; trivial
 · obtain rfl : i = l.length := by omega
   have hf := strsN_fl (k := l.length) hl hp
   have g1 := elemS_len 48 (strsN l l.length)
   have g2 := elemS_len 27 [r.data.toList]
   have g3 : r.data.toList.length = r.size := by simp
   simp only [List.flatten_cons, List.flatten_nil, List.append_nil] at g2
   have g4 := wrapS_len 160 0 (elemS 48 (strsN l l.length))
   have g5 := wrapS_len 160 1 (elemS 27 [r.data.toList])
   refine si_freeze 1 rfl rfl (by omega) ?_ ?_ ?_
   · with_reducible refine sxE ?_; trivial
   · with_reducible refine sxE ?_
     exact Nat.le_refl _
   with_reducible refine sxE ?_
   rw [List.take_of_length_le (Nat.le_refl _)]
   refine goE mixed ?_
   refine ⟨fun h => absurd h hlt, fun _ => callR_pure (rseq_c _ (by omega) (by omega)) ?_⟩
   refine goE mixed ?_
   refine callR_pure (rtag_c 0 (by decide) _ (by omega)) ?_
   refine goE mixed ?_
   refine callR_pure (rstr_c r (by omega)) ?_
   refine goE mixed ?_
   refine callR_pure (rtag_c 1 (by decide) _ (by omega)) ?_
   refine goE mixed ?_
   refine callR_hand 2 (by decide) ?_
   with_reducible refine sxE ?_
   refine callR_pure (rseq_c _ (by simp) (by simp only [List.flatten_cons, List.flatten_nil, List.append_nil, List.length_append]; omega)) ?_
   refine goE mixed ?_
   exact hps.symm
def datR (d : Pre) : List UInt8 := elemS 48 [wrapS 160 0 (intR d.1), wrapS 160 1 (elemS 4 [d.2])]
theorem datR_len (d : Pre) : (datR d).length ≤ d.2.length + 45 := by
 have g1 := intR_len d.1
 have g3 := elemS_len 4 [d.2]
 simp only [List.flatten_cons, List.flatten_nil, List.append_nil] at g3
 have g5 := wrapS_len 160 0 (intR d.1)
 have g6 := wrapS_len 160 1 (elemS 4 [d.2])
 have g7 := elemS_len 48 [wrapS 160 0 (intR d.1), wrapS 160 1 (elemS 4 [d.2])]
 simp only [List.flatten_cons, List.flatten_nil, List.append_nil, List.length_append] at g7
 unfold datR
 omega
def shD (l : List Pre) : Prop := l.length ≤ 32 ∧ ∀ d ∈ l, (-9223372036854775808 ≤ (d.1 : Int) ∧ (d.1 : Int) ≤ 9223372036854775807) ∧ d.2.length ≤ 16384
def dataR (l : List Pre) : List UInt8 := elemS 48 (mapN (t := PreT) datR l l.length)
theorem dataR_fl {l : List Pre} (h : shD l) (i : Nat) : (mapN (t := PreT) datR l i).flatten.length ≤ 525728 := by
 have h1 := flat_le (B := 16429) (mapN (t := PreT) datR l i) (fun x hx => by
  unfold mapN at hx
  rw [List.mem_map] at hx
  obtain ⟨y, hy, rfl⟩ := hx
  have h2 := (h.2 y (List.mem_of_mem_take hy)).2
  have := datR_len y
  omega)
 have h2 : (mapN (t := PreT) datR l i).length ≤ 32 := by
  unfold mapN; simp; have := h.1; omega
 have : 16429 * (mapN (t := PreT) datR l i).length ≤ 16429 * 32 := Nat.mul_le_mul_left _ h2
 omega
theorem dataR_len {l : List Pre} (h : shD l) : (dataR l).length ≤ 525740 := by
 have := dataR_fl h l.length
 have := elemS_len 48 (mapN (t := PreT) datR l l.length)
 unfold dataR
 omega
theorem rdata_a (l : List Pre) (h : shD l) : PC Tryz.prog 106 [.isl PreT l] (.isl .u8 (dataR l)) := by
 have hl := h.1
 have hfl := dataR_fl h l.length
 have hd : dataR l = elemS 48 (mapN (t := PreT) datR l l.length) := rfl
 generalize dataR l = ps at *
 refine pc_seal rfl rfl ?_
 refine runE mixed fi106 ?_
 refine si_accN 3 (.slice .u8) (mapN (t := PreT) datR l) (fun i => [(4, rI i)]) l.length (fun _ => True) rfl (by simp) (by simp [mapN]) rfl (fun i => rfl) ?_ fun i hi _ => ?_
 · with_reducible refine sxE ?_; trivial
 have hwr : IntKind.i64.wrap ((i : Int) + 1) = ((i + 1 : Nat) : Int) := wrap_succ (by omega)
 have hln := mapN_len (t := PreT) (w := datR) hi
 by_cases hlt : i < l.length
 · have hst := mapN_succ (t := PreT) (w := datR) hlt
   obtain ⟨z1, z2⟩ := h.2 _ (getD_mem (d := PreT.dflt) hlt)
   have hone : datR (l.getD i PreT.dflt) = elemS 48 [wrapS 160 0 (intR (l.getD i PreT.dflt).1), wrapS 160 1 (elemS 4 [(l.getD i PreT.dflt).2])] := rfl
   have g1 := intR_len (l.getD i PreT.dflt).1
   have g3 := elemS_len 4 [(l.getD i PreT.dflt).2]
   simp only [List.flatten_cons, List.flatten_nil, List.append_nil] at g3
   have g5 := wrapS_len 160 0 (intR (l.getD i PreT.dflt).1)
   have g6 := wrapS_len 160 1 (elemS 4 [(l.getD i PreT.dflt).2])
   refine goE mixed ?_
   refine ⟨fun _ => ⟨⟨by omega, hlt⟩, ⟨by omega, hlt⟩, ?_⟩, fun h => absurd hlt h⟩
   refine callR_pure (rint_a _ z1) ?_
   refine goE mixed ?_
   refine callR_pure (rtag_c 0 (by decide) _ (by omega)) ?_
   refine goE mixed ?_
   refine callR_pure (roct_c _ (by omega)) ?_
   refine goE mixed ?_
   refine callR_pure (rtag_c 1 (by decide) _ (by omega)) ?_
   refine goE mixed ?_
   refine callR_hand 1 (by decide) ?_
   with_reducible refine sxE ?_
   refine callR_pure (rseq_c _ (by simp) (by simp only [List.flatten_cons, List.flatten_nil, List.append_nil, List.length_append]; omega)) ?_
   refine goE mixed ?_
   refine ⟨⟨by omega, by omega⟩, acc_next [_, _, _] [] hlt trivial (by rw [hst, hone]; rfl) ?_⟩
   with_reducible refine sx3 hwr hst ?_; trivial
 · obtain rfl : i = l.length := by omega
   refine si_freeze 0 rfl rfl (by omega) ?_ ?_ ?_
   · with_reducible refine sxE ?_; trivial
   · with_reducible refine sxE ?_
     exact Nat.le_refl _
   with_reducible refine sxE ?_
   rw [List.take_of_length_le (Nat.le_refl _)]
   refine goE mixed ?_
   refine ⟨fun h => absurd h hlt, fun _ => callI_pure (rseq_c _ (by omega) (by omega)) ?_⟩
   refine goE mixed ?_
   exact hd.symm
end Go.Proofs.YthmoognbccfpiaaGreatDoor

