/- Contracts: reading the elements of an offer; decoding an offer. -/
import Derived.Test.YtddmkgibghohkaaGreatDoorP24
import Derived.Test.YtddmkgibghohkaaGreatDoorP22
import Derived.Test.YtddmkgibghohkaaGreatDoorPKn
set_option linter.unusedSimpArgs false
set_option linter.unusedVariables false
namespace Go.Proofs.YtddmkgibghohkaaGreatDoor
open Go Go.Sx Go.Proofs
set_option maxRecDepth 100000
set_option maxHeartbeats 4000000
set_option linter.unusedSimpArgs false

attribute [go_sem] effO effH
def shiftP {α : Type} (k : Nat) : Except Nat (α × Nat) → Except Nat (α × Nat)
  | .ok (v, m) => .ok (v, k + m)
  | .error e => .error e
theorem bindP_er {α β : Type} {p : PR α} {f : α → PR β} {r : List UInt8} {e : Nat} (h : p r = .error e) : bindP p f r = .error e := by unfold bindP; rw [h]
theorem bindP_st {α β : Type} {p : PR α} {f : α → PR β} {b : List UInt8} {n : Nat} {v : α} {k : Nat} (h : p (b.drop n) = .ok (v, k)) : bindP p f (b.drop n) = shiftP k (f v (b.drop (n + k))) := by
  unfold bindP; rw [h]
  simp only [List.drop_drop]
  cases f v (b.drop (n + k)) with
  | error e => rfl
  | ok y => rfl
theorem fits_at {α : Type} {p : PR α} (hp : FitsP p) {b : List UInt8} {n : Nat} (hn : n ≤ b.length) {v : α} {k : Nat} (h : p (b.drop n) = .ok (v, k)) : n + k ≤ b.length := by
  have := hp _ _ _ h
  rw [List.length_drop] at this; omega
theorem salA (b : List UInt8) (n : Nat) (hn : n ≤ b.length) (hb : b.length ≤ 1099511627776) (x0 x1 x2 : Value) :
    Eff Tryz.prog 143 [.agg [.ptr 0 0], .ptr 1 0] b n [.cells 73 [.raw x0, .raw x1, .raw x2]] (fun _ => .tup []) (fun v => [.cells 73 [rI v, .raw x1, .raw x2]]) (intP (b.drop n)) := by
  cases hx : intP (b.drop n) with
  | error e =>
    have hr := rint_er b n hn hb hx
    refine pe_seal (by simp) ?_
    refine runE mixed fi143 ?_ <;> try with_reducible exact True.intro
    refine callI_eff [0] (hr) rfl (by decide) (by repeat first | exact trivial | exact rfl | refine And.intro ?_ ?_) rfl rfl ?_
    simp only [afterO, Out.ren, SV.ren, mgA, sig, SObj.ren, SV.renL, List.set, List.map, List.append_nil]
    refine goE mixed ?_ <;> try with_reducible exact True.intro
    refine callI_eff [] (take_er_int _ e (rdP_ne hx)) rfl (by decide) (by repeat first | exact trivial | exact rfl | refine And.intro ?_ ?_) rfl rfl ?_
    simp only [afterO, Out.ren, SV.ren, mgA, sig, SObj.ren, SV.renL, List.set, List.map, List.append_nil]
    (with_reducible refine sxE ?_ <;> try exact True.intro)
  | ok x =>
    obtain ⟨v, k⟩ := x
    have hr := rint_ok b n hn hb hx
    refine pe_seal (by simp) ?_
    refine runE mixed fi143 ?_ <;> try with_reducible exact True.intro
    refine callI_eff [0] (hr) rfl (by decide) (by repeat first | exact trivial | exact rfl | refine And.intro ?_ ?_) rfl rfl ?_
    simp only [afterO, Out.ren, SV.ren, mgA, sig, SObj.ren, SV.renL, List.set, List.map, List.append_nil]
    refine goE mixed ?_ <;> try with_reducible exact True.intro
    refine callI_pure (take_int _) ?_
    refine goE mixed ?_ <;> try with_reducible exact True.intro
theorem salB (b : List UInt8) (n : Nat) (hn : n ≤ b.length) (hb : b.length ≤ 1099511627776) (x0 x1 x2 : Value) :
    Eff Tryz.prog 146 [.agg [.ptr 0 0], .ptr 1 0] b n [.cells 73 [.raw x0, .raw x1, .raw x2]] (fun _ => .tup []) (fun v => [.cells 73 [.raw x0, rS v, .raw x2]]) (strP (b.drop n)) := by
  cases hx : strP (b.drop n) with
  | error e =>
    have hr := rstr_er b n hn hb hx
    refine pe_seal (by simp) ?_
    refine runE mixed fi146 ?_ <;> try with_reducible exact True.intro
    refine callI_eff [0] (hr) rfl (by decide) (by repeat first | exact trivial | exact rfl | refine And.intro ?_ ?_) rfl rfl ?_
    simp only [afterO, Out.ren, SV.ren, mgA, sig, SObj.ren, SV.renL, List.set, List.map, List.append_nil]
    refine goE mixed ?_ <;> try with_reducible exact True.intro
    refine callI_eff [] (take_er_str _ e (rdP_ne hx)) rfl (by decide) (by repeat first | exact trivial | exact rfl | refine And.intro ?_ ?_) rfl rfl ?_
    simp only [afterO, Out.ren, SV.ren, mgA, sig, SObj.ren, SV.renL, List.set, List.map, List.append_nil]
    (with_reducible refine sxE ?_ <;> try exact True.intro)
  | ok x =>
    obtain ⟨v, k⟩ := x
    have hr := rstr_ok b n hn hb hx
    refine pe_seal (by simp) ?_
    refine runE mixed fi146 ?_ <;> try with_reducible exact True.intro
    refine callI_eff [0] (hr) rfl (by decide) (by repeat first | exact trivial | exact rfl | refine And.intro ?_ ?_) rfl rfl ?_
    simp only [afterO, Out.ren, SV.ren, mgA, sig, SObj.ren, SV.renL, List.set, List.map, List.append_nil]
    refine goE mixed ?_ <;> try with_reducible exact True.intro
    refine callI_pure (take_str _) ?_
    refine goE mixed ?_ <;> try with_reducible exact True.intro
theorem salC (b : List UInt8) (n : Nat) (hn : n ≤ b.length) (hb : b.length ≤ 1099511627776) (x0 x1 x2 : Value) :
    Eff Tryz.prog 149 [.agg [.ptr 0 0], .ptr 1 0] b n [.cells 73 [.raw x0, .raw x1, .raw x2]] (fun _ => .tup []) (fun v => [.cells 73 [.raw x0, .raw x1, rI v]]) (intP (b.drop n)) := by
  cases hx : intP (b.drop n) with
  | error e =>
    have hr := rint_er b n hn hb hx
    refine pe_seal (by simp) ?_
    refine runE mixed fi149 ?_ <;> try with_reducible exact True.intro
    refine callI_eff [0] (hr) rfl (by decide) (by repeat first | exact trivial | exact rfl | refine And.intro ?_ ?_) rfl rfl ?_
    simp only [afterO, Out.ren, SV.ren, mgA, sig, SObj.ren, SV.renL, List.set, List.map, List.append_nil]
    refine goE mixed ?_ <;> try with_reducible exact True.intro
    refine callI_eff [] (take_er_int _ e (rdP_ne hx)) rfl (by decide) (by repeat first | exact trivial | exact rfl | refine And.intro ?_ ?_) rfl rfl ?_
    simp only [afterO, Out.ren, SV.ren, mgA, sig, SObj.ren, SV.renL, List.set, List.map, List.append_nil]
    (with_reducible refine sxE ?_ <;> try exact True.intro)
  | ok x =>
    obtain ⟨v, k⟩ := x
    have hr := rint_ok b n hn hb hx
    refine pe_seal (by simp) ?_
    refine runE mixed fi149 ?_ <;> try with_reducible exact True.intro
    refine callI_eff [0] (hr) rfl (by decide) (by repeat first | exact trivial | exact rfl | refine And.intro ?_ ?_) rfl rfl ?_
    simp only [afterO, Out.ren, SV.ren, mgA, sig, SObj.ren, SV.renL, List.set, List.map, List.append_nil]
    refine goE mixed ?_ <;> try with_reducible exact True.intro
    refine callI_pure (take_int _) ?_
    refine goE mixed ?_ <;> try with_reducible exact True.intro
def saltIn : PR Salt := bindP (needP 0 intP) fun a => bindP (needP 1 strP) fun s => bindP (needP 2 intP) fun i => retP (a, s, i)
theorem salt1_c (b : List UInt8) (n : Nat) (hn : n ≤ b.length) (hb : b.length ≤ 1099511627776) :
    Eff Tryz.prog 141 [.agg [.ptr 0 0], .ptr 1 0] b n [.cells 73 [rI 0, rS ⟨#[]⟩, rI 0]] (fun _ => .tup []) (fun s => [.cells 73 (SaltT.cells s)]) (saltIn (b.drop n)) := by
  refine eff_of (fun _ => Nat.le_refl _) ?_
  unfold saltIn
  have c3 : ∀ a s i : Value, Cln [.raw a, .raw s, .raw i] := fun _ _ _ => cln_raw (cln_raw (cln_raw cln_nil))
  refine runE mixed fi141 ?_ <;> try with_reducible exact True.intro
  have n1 := need1 143 0 (by omega) b n hn hb 73 _ (c3 (.int .i64 0) (.string ⟨#[]⟩) (.int .i64 0)) intP rdP_fits _ (fun v => c3 (.int .i64 v) _ _) (salA (takeC (b.drop n)) 0 (Nat.zero_le _) (tkC_le hb) _ _ _)
  cases h1 : needP 0 intP (b.drop n) with
  | error e =>
    rw [bindP_er h1]
    have n1' := eff_er n1 h1
    refine callI_eff [0, 1] (n1') rfl (by decide) (by repeat first | exact trivial | exact rfl | refine And.intro ?_ ?_) rfl rfl ?_
    simp only [afterO, Out.ren, SV.ren, mgA, sig, SObj.ren, SV.renL, List.set, List.map, List.append_nil]
    (with_reducible refine sxE ?_ <;> try exact True.intro)
  | ok x =>
    obtain ⟨v1, k1⟩ := x
    rw [bindP_st h1]
    have n1' := eff_ok n1 h1
    have f1 := fits_at needP_fits hn h1
    refine callI_eff [0, 1] (n1') rfl (by decide) (by repeat first | exact trivial | exact rfl | refine And.intro ?_ ?_) rfl rfl ?_
    simp only [afterO, Out.ren, SV.ren, mgA, sig, SObj.ren, SV.renL, List.set, List.map, List.append_nil]
    refine goE mixed ?_ <;> try with_reducible exact True.intro
    have n2 := need1 146 1 (by omega) b _ f1 hb 73 _ (c3 (.int .i64 v1) (.string ⟨#[]⟩) (.int .i64 0)) strP rdP_fits _ (fun v => c3 _ (.string v) _) (salB (takeC (b.drop _)) 0 (Nat.zero_le _) (tkC_le hb) _ _ _)
    cases h2 : needP 1 strP (b.drop (n + k1)) with
    | error e =>
      rw [bindP_er h2]
      have n2' := eff_er n2 h2
      simp only [shiftP]
      refine callI_eff [0, 1] (n2') rfl (by decide) (by repeat first | exact trivial | exact rfl | refine And.intro ?_ ?_) rfl rfl ?_
      simp only [afterO, Out.ren, SV.ren, mgA, sig, SObj.ren, SV.renL, List.set, List.map, List.append_nil]
      (with_reducible refine sxE ?_ <;> try exact True.intro)
    | ok x =>
      obtain ⟨v2, k2⟩ := x
      rw [bindP_st h2]
      have n2' := eff_ok n2 h2
      have f2 := fits_at needP_fits f1 h2
      refine callI_eff [0, 1] (n2') rfl (by decide) (by repeat first | exact trivial | exact rfl | refine And.intro ?_ ?_) rfl rfl ?_
      simp only [afterO, Out.ren, SV.ren, mgA, sig, SObj.ren, SV.renL, List.set, List.map, List.append_nil]
      refine goE mixed ?_ <;> try with_reducible exact True.intro
      have n3 := need1 149 2 (by omega) b _ f2 hb 73 _ (c3 (.int .i64 v1) (.string v2) (.int .i64 0)) intP rdP_fits _ (fun v => c3 _ _ (.int .i64 v)) (salC (takeC (b.drop _)) 0 (Nat.zero_le _) (tkC_le hb) _ _ _)
      cases h3 : needP 2 intP (b.drop (n + k1 + k2)) with
      | error e =>
        rw [bindP_er h3]
        have n3' := eff_er n3 h3
        simp only [shiftP]
        refine callI_eff [0, 1] (n3') rfl (by decide) (by repeat first | exact trivial | exact rfl | refine And.intro ?_ ?_) rfl rfl ?_
        simp only [afterO, Out.ren, SV.ren, mgA, sig, SObj.ren, SV.renL, List.set, List.map, List.append_nil]
        (with_reducible refine sxE ?_ <;> try exact True.intro)
      | ok x =>
        obtain ⟨v3, k3⟩ := x
        rw [bindP_st h3]
        have n3' := eff_ok n3 h3
        simp only [shiftP, retP]
        refine callI_eff [0, 1] (n3') rfl (by decide) (by repeat first | exact trivial | exact rfl | refine And.intro ?_ ?_) rfl rfl ?_
        simp only [afterO, Out.ren, SV.ren, mgA, sig, SObj.ren, SV.renL, List.set, List.map, List.append_nil]
        refine goE mixed ?_ <;> try with_reducible exact True.intro
        exact congrArg (Value.int .i64) (by omega)
theorem saltIn_fits : FitsP saltIn := bindP_fits needP_fits fun _ => bindP_fits needP_fits fun _ => bindP_fits needP_fits fun _ => retP_fits
theorem salt_c (b : List UInt8) (n : Nat) (hn : n ≤ b.length) (hb : b.length ≤ 1099511627776) :
    Eff Tryz.prog 79 [.agg [.ptr 0 0]] b n [] (fun s => .agg (SaltT.cells s)) (fun _ => []) (saltP (b.drop n)) := by
  have h1 := salt1_c (takeC (b.drop n)) 0 (Nat.zero_le _) (tkC_le hb)
  rw [List.drop_zero] at h1
  have hs := sequence1 141 b n hn hb 73 _ (cln_raw (cln_raw (cln_raw cln_nil))) saltIn saltIn_fits (fun s => SaltT.cells s) (fun s => cln_ty SaltT s) h1
  have he : saltP (b.drop n) = inP 48 saltIn (b.drop n) := rfl
  rw [he]
  cases hx : inP 48 saltIn (b.drop n) with
  | error e =>
    have hm' := eff_er hs hx
    refine pe_seal (by simp) ?_
    refine runE mixed fi79 ?_ <;> try with_reducible exact True.intro
    refine callI_eff [0, 2] (hm') rfl (by decide) (by repeat first | exact trivial | exact rfl | refine And.intro ?_ ?_) rfl rfl ?_
    simp only [afterO, Out.ren, SV.ren, mgA, sig, SObj.ren, SV.renL, List.set, List.map, List.append_nil]
    (with_reducible refine sxE ?_ <;> try exact True.intro)
  | ok x =>
    obtain ⟨v, k⟩ := x
    have hm' := eff_ok hs hx
    refine pe_seal (by simp) ?_
    refine runE mixed fi79 ?_ <;> try with_reducible exact True.intro
    refine callI_eff [0, 2] (hm') rfl (by decide) (by repeat first | exact trivial | exact rfl | refine And.intro ?_ ?_) rfl rfl ?_
    simp only [afterO, Out.ren, SV.ren, mgA, sig, SObj.ren, SV.renL, List.set, List.map, List.append_nil]
    refine goE mixed ?_ <;> try with_reducible exact True.intro
end Go.Proofs.YtddmkgibghohkaaGreatDoor
/- Contracts: decoding an offer. -/
namespace Go.Proofs.YtddmkgibghohkaaGreatDoor
open Go Go.Sx Go.Proofs
set_option maxRecDepth 100000
set_option maxHeartbeats 4000000
set_option linter.unusedSimpArgs false

/-- What a parser reads out of so many bytes satisfies this. -/
def OkP {α : Type} (p : PR α) (Q : α → Prop) : Prop := ∀ r v m, r.length ≤ 1099511627776 → p r = .ok (v, m) → Q v
theorem okP_rd {α : Type} {tag : UInt8} {dec : List UInt8 → Option α} {Q : α → Prop} (h : ∀ c v, c.length ≤ 1099511627776 → dec c = some v → Q v) : OkP (rdP tag dec) Q := fun r v m hr hx => by
  obtain ⟨_, h2, _⟩ := rdP_ok hx
  exact h _ v (Nat.le_trans (takeC_len r) hr) h2
theorem okP_in {α : Type} {tag : UInt8} {p : PR α} {Q : α → Prop} (h : OkP p Q) : OkP (inP tag p) Q := fun r v m hr hx => by
  rcases inP_cases (tag := tag) (p := p) (r := r) with ⟨_, e⟩ | ⟨_, _, _, e⟩ | ⟨_, _, _, _, _, e⟩ | ⟨_, u, k, g, _, e⟩ <;> rw [e] at hx <;> cases hx
  exact h _ _ _ (Nat.le_trans (takeC_len r) hr) g
theorem okP_need {α : Type} {n : Nat} {p : PR α} {Q : α → Prop} (h : OkP p Q) : OkP (needP n p) Q := fun r v m hr hx => by
  unfold needP at hx
  split at hx
  · exact okP_in h r v m hr hx
  · cases hx
theorem okP_bind {α β : Type} {p : PR α} {f : α → PR β} {Q1 : α → Prop} {Q : β → Prop} (hp : OkP p Q1) (hf : ∀ v, Q1 v → OkP (f v) Q) : OkP (bindP p f) Q := fun r v m hr hx => by
  unfold bindP at hx
  cases h1 : p r with
  | error e => rw [h1] at hx; cases hx
  | ok y =>
    obtain ⟨u, k⟩ := y
    rw [h1] at hx
    simp only at hx
    cases h2 : f u (r.drop k) with
    | error e => rw [h2] at hx; cases hx
    | ok z =>
      obtain ⟨w, l⟩ := z
      rw [h2] at hx; cases hx
      exact hf u (hp r u k hr h1) _ _ _ (by rw [List.length_drop]; omega) h2
theorem okP_ret {α : Type} {v : α} {Q : α → Prop} (h : Q v) : OkP (retP v) Q := fun r u m _ hx => by cases hx; exact h
theorem okP_list {α : Type} {p : PR α} {Q : α → Prop} (hp : OkP p Q) : ∀ n, OkP (listP p n) fun l => l.length ≤ n ∧ ∀ x ∈ l, Q x
  | 0, r, v, m, _, hx => by
    simp only [listP] at hx
    split at hx
    · cases hx; exact ⟨Nat.le_refl _, by simp⟩
    · cases hx
  | n + 1, r, v, m, hr, hx => by
    simp only [listP] at hx
    split at hx
    · cases hx; exact ⟨by simp, by simp⟩
    · cases h1 : p r with
      | error e => rw [h1] at hx; cases hx
      | ok y =>
        obtain ⟨u, k⟩ := y
        rw [h1] at hx
        simp only at hx
        cases h2 : listP p n (r.drop k) with
        | error e => rw [h2] at hx; cases hx
        | ok z =>
          obtain ⟨w, l⟩ := z
          rw [h2] at hx; cases hx
          have h3 := okP_list hp n _ _ _ (by rw [List.length_drop]; omega) h2
          exact ⟨by simp; exact h3.1, fun x hxm => by
            rcases List.mem_cons.1 hxm with rfl | hm
            · exact hp r _ k hr h1
            · exact h3.2 x hm⟩
theorem okP_true {α : Type} {p : PR α} : OkP p fun _ => True := fun _ _ _ _ _ => trivial
theorem okP_str : OkP strP fun s => s.size ≤ 1099511627776 := okP_rd fun c v hc hd => by
  unfold decStr at hd; cases hd
  show c.toArray.size ≤ _
  simpa using hc
theorem okP_salt : OkP saltP (SaltT).ok := okP_in (okP_bind (Q1 := fun _ => True) okP_true fun a _ => okP_bind (okP_need okP_str) fun s hs => okP_bind (Q1 := fun _ => True) okP_true fun i _ => okP_ret ⟨trivial, by show s.size ≤ _; omega, trivial⟩)
theorem new_c (b : List UInt8) (hb : b.length ≤ 140737488355328) : PE Tryz.prog 151 [.isl .u8 b] [] (.ret (.ptr 0 0)) [rdr b 0] := by
  refine pe_seal (by simp) ?_
  refine runE mixed fi151 ?_ <;> try with_reducible exact True.intro
  refine callI_pure (bclone_c b hb) ?_
  refine goE mixed ?_ <;> try with_reducible exact True.intro
  refine callI_eff [] (inner_c b) rfl (by decide) (by repeat first | exact trivial | exact rfl | refine And.intro ?_ ?_) rfl rfl ?_
  simp only [afterO, Out.ren, SV.ren, mgA, sig, SObj.ren, SV.renL, List.set, List.map, List.append_nil]
  refine goE mixed ?_ <;> try with_reducible exact True.intro
theorem offer1_c (b : List UInt8) (n : Nat) (hn : n ≤ b.length) (hb : b.length ≤ 1099511627776) :
    Eff Tryz.prog 77 [.agg [.ptr 0 0]] b n [] (fun l => .isl SaltT l) (fun _ => []) (offerP (b.drop n)) := by
  have hv := values_salt 79 saltP inP_fits 4 (by omega) b n hn hb (fun c v q hc h => okP_salt c v q hc h) (fun c m hm hc => salt_c c m hm hc)
  have he : offerP (b.drop n) = inP 48 (listP saltP 4) (b.drop n) := rfl
  rw [he]
  cases hx : inP 48 (listP saltP 4) (b.drop n) with
  | error e =>
    have hm' := eff_er hv hx
    refine pe_seal (by simp) ?_
    refine runE mixed fi77 ?_ <;> try with_reducible exact True.intro
    refine callI_eff [0] (hm') rfl (by decide) (by repeat first | exact trivial | exact rfl | refine And.intro ?_ ?_) rfl rfl ?_
    simp only [afterO, Out.ren, SV.ren, mgA, sig, SObj.ren, SV.renL, List.set, List.map, List.append_nil]
    (with_reducible refine sxE ?_ <;> try exact True.intro)
  | ok x =>
    obtain ⟨v, k⟩ := x
    have hm' := eff_ok hv hx
    refine pe_seal (by simp) ?_
    refine runE mixed fi77 ?_ <;> try with_reducible exact True.intro
    refine callI_eff [0] (hm') rfl (by decide) (by repeat first | exact trivial | exact rfl | refine And.intro ?_ ?_) rfl rfl ?_
    simp only [afterO, Out.ren, SV.ren, mgA, sig, SObj.ren, SV.renL, List.set, List.map, List.append_nil]
    refine goE mixed ?_ <;> try with_reducible exact True.intro
theorem equal_d (a b : List UInt8) : PC Tryz.prog 69 [.isl .u8 a, .isl .u8 b] (rB (decide (a = b))) := by
  refine pc_of rfl rfl ?_
  refine runE mixed fi69 ?_ <;> try with_reducible exact True.intro
  exact decide_eq_decide.2 ⟨fun h => by simpa [strOf] using h, fun h => by rw [h]⟩
theorem dpanS_c (T : TypeId) (x : Value) (R : List SObj) (K : List SObj → Prop) (h : ∀ G, K (.cells T [rI 6] :: (R ++ G))) : DCall Tryz.prog 150 [.ptr 0 0] (some wrongV) (.cells T [.raw x] :: R) K := by
  refine recE mixed fi150 ?_ <;> try with_reducible exact True.intro
  exact h _
theorem dretS_c (o : SObj) (R : List SObj) (K : List SObj → Prop) (h : ∀ G, K (o :: (R ++ G))) : DCall Tryz.prog 150 [.ptr 0 0] none (o :: R) K := by
  refine recE mixed fi150 ?_ <;> try with_reducible exact True.intro
  exact h _
theorem decodeS_c (b : List UInt8) (hb : b.length ≤ 1099511627776) : PC Tryz.prog 80 [.isl .u8 b, .fn 77 [] [], .fn 70 [] [], .fn 71 [] []] (.tup [.isl SaltT ((decOffer b).getD []), rI (if (decOffer b).isSome then 0 else 6)]) := by
  have hnew := new_c b (by omega)
  have hread := offer1_c b 0 (Nat.zero_le _) hb
  have hok : ∀ l m, offerP b = .ok (l, m) → l.length ≤ 4 ∧ ∀ x ∈ l, (SaltT).ok x := fun l m h => okP_in (okP_list okP_salt 4) b l m hb h
  rw [List.drop_zero] at hread
  refine pc_seal rfl rfl ?_
  refine defE mixed fi80 ?_ <;> try with_reducible exact True.intro
  refine goE mixed ?_ <;> try with_reducible exact True.intro
  refine callI_eff [] (hnew) rfl (by decide) (by repeat first | exact trivial | exact rfl | refine And.intro ?_ ?_) rfl rfl ?_
  simp only [afterO, Out.ren, SV.ren, mgA, sig, SObj.ren, SV.renL, List.set, List.map, List.append_nil]
  refine goE mixed ?_ <;> try with_reducible exact True.intro
  cases hx : offerP b with
  | error e =>
    have hd : decOffer b = none := by unfold decOffer allP; rw [hx]
    have hr := eff_er hread hx
    rw [hd]
    refine callI_eff [1] (hr) rfl (by decide) (by repeat first | exact trivial | exact rfl | refine And.intro ?_ ?_) rfl rfl ?_
    simp only [afterO, Out.ren, SV.ren, mgA, sig, SObj.ren, SV.renL, List.set, List.map, List.append_nil]
    (with_reducible refine sxE ?_ <;> try exact True.intro)
    refine ⟨by simp, dpanS_c _ _ _ _ fun G => ?_⟩
    (with_reducible refine sxE ?_ <;> try exact True.intro)
    exact ⟨rfl, rfl⟩
  | ok x =>
    obtain ⟨l, m⟩ := x
    have hr := eff_ok hread hx
    obtain ⟨hl4, hlo⟩ := hok l m hx
    rw [Nat.zero_add] at hr
    refine callI_eff [1] (hr) rfl (by decide) (by repeat first | exact trivial | exact rfl | refine And.intro ?_ ?_) rfl rfl ?_
    simp only [afterO, Out.ren, SV.ren, mgA, sig, SObj.ren, SV.renL, List.set, List.map, List.append_nil]
    refine goE mixed ?_ <;> try with_reducible exact True.intro
    have hfit : m ≤ b.length := inP_fits _ _ _ hx
    by_cases hm : m < b.length
    · have hd : decOffer b = none := by unfold decOffer allP; rw [hx]; simp [hm]
      rw [hd]
      refine callI_eff [1] (done_f b m hm) rfl (by decide) (by repeat first | exact trivial | exact rfl | refine And.intro ?_ ?_) rfl rfl ?_
      simp only [afterO, Out.ren, SV.ren, mgA, sig, SObj.ren, SV.renL, List.set, List.map, List.append_nil]
      (with_reducible refine sxE ?_ <;> try exact True.intro)
      refine ⟨by simp, dpanS_c _ _ _ _ fun G => ?_⟩
      (with_reducible refine sxE ?_ <;> try exact True.intro)
      exact ⟨rfl, rfl⟩
    · refine callI_eff [1] (done_t b m (by omega)) rfl (by decide) (by repeat first | exact trivial | exact rfl | refine And.intro ?_ ?_) rfl rfl ?_
      simp only [afterO, Out.ren, SV.ren, mgA, sig, SObj.ren, SV.renL, List.set, List.map, List.append_nil]
      refine goE mixed ?_ <;> try with_reducible exact True.intro
      refine callI_pure (voffer_c l (by omega)) ?_
      cases hv : vOffer l with
      | false =>
        have hd : decOffer b = none := by unfold decOffer allP; rw [hx]; simp [hm, hv]
        rw [hd]
        refine goE mixed ?_ <;> try with_reducible exact True.intro
        refine callI_require (fun h => absurd h (by decide)) fun _ => ?_
        (with_reducible refine sxE ?_ <;> try exact True.intro)
        refine ⟨by simp, dpanS_c _ _ _ _ fun G => ?_⟩
        (with_reducible refine sxE ?_ <;> try exact True.intro)
        exact ⟨rfl, rfl⟩
      | true =>
        refine goE mixed ?_ <;> try with_reducible exact True.intro
        have ho : (Ty.slice SaltT).ok l := ⟨by omega, hlo⟩
        refine callI_pure (writeOffer_c l ho (by omega)) ?_
        refine goE mixed ?_ <;> try with_reducible exact True.intro
        refine callI_pure (equal_d _ _) ?_
        by_cases he : offerS l = b
        · have hd : decOffer b = some l := by unfold decOffer allP; rw [hx]; simp [hm, hv, he]
          rw [hd, decide_eq_true he]
          refine goE mixed ?_ <;> try with_reducible exact True.intro
          refine callI_pure require_t ?_
          refine goE mixed ?_ <;> try with_reducible exact True.intro
          refine dretS_c _ _ _ fun G => ?_
          (with_reducible refine sxE ?_ <;> try exact True.intro)
          exact ⟨rfl, rfl⟩
        · have hd : decOffer b = none := by unfold decOffer allP; rw [hx]; simp [hm, hv, he]
          rw [hd, decide_eq_false he]
          refine goE mixed ?_ <;> try with_reducible exact True.intro
          refine callI_require (fun h => absurd h (by decide)) fun _ => ?_
          (with_reducible refine sxE ?_ <;> try exact True.intro)
          refine ⟨by simp, dpanS_c _ _ _ _ fun G => ?_⟩
          (with_reducible refine sxE ?_ <;> try exact True.intro)
          exact ⟨rfl, rfl⟩
theorem decodeOffer_c (b : List UInt8) (hb : b.length ≤ 1099511627776) : PC Tryz.prog 35 [.isl .u8 b] (.tup [.isl SaltT ((decOffer b).getD []), rI (if (decOffer b).isSome then 0 else 6)]) := by
  have h := decodeS_c b hb
  generalize (decOffer b).getD [] = l at *
  generalize (decOffer b).isSome = s at *
  refine pc_seal rfl rfl ?_
  refine runE mixed fi35 ?_ <;> try with_reducible exact True.intro
  refine callI_pure h ?_
  refine goE mixed ?_ <;> try with_reducible exact True.intro
end Go.Proofs.YtddmkgibghohkaaGreatDoor
/- Contracts: the reference's decoding of an offer; both decoders tell the same. -/
namespace Go.Proofs.YtddmkgibghohkaaGreatDoor
open Go Go.Sx Go.Proofs
set_option maxRecDepth 100000
set_option maxHeartbeats 4000000
set_option linter.unusedSimpArgs false

def sltN (l : List (List UInt8)) (i : Nat) : List Salt := (l.take i).map sltR
theorem sltN_succ {l : List (List UInt8)} {i : Nat} (h : i < l.length) : sltN l (i + 1) = sltN l i ++ [sltR (l.getD i (Ty.slice .u8).dflt)] := by unfold sltN; rw [take_succ_getD (d := (Ty.slice .u8).dflt) h]; simp
theorem sltN_len {l : List (List UInt8)} {i : Nat} (h : i ≤ l.length) : (sltN l i).length = i := by simp [sltN]; omega
theorem rdecOffer_c (b : List UInt8) (hb : b.length ≤ 1048576) : PC Tryz.prog 36 [.isl .u8 b] (.tup [.isl SaltT ((decOffer b).getD []), rI (if (decOffer b).isSome then 0 else 6)]) := by
  have hc := contents_c b (by omega)
  have hl := conR_len b
  have he := elements_c (conR b) (by omega)
  have hm := elsR_mem (conR b).length (conR b)
  have hle := elsR_len (conR b).length (conR b)
  have hd : decOffer b = if vOffer ((elsR (conR b).length (conR b)).map sltR) = true ∧ offerS ((elsR (conR b).length (conR b)).map sltR) = b then some ((elsR (conR b).length (conR b)).map sltR) else none := (decOff_eq b).symm
  rw [hd]
  clear hd
  generalize elsR (conR b).length (conR b) = l at *
  refine pc_seal rfl rfl ?_
  refine runE mixed fi36 ?_ <;> try with_reducible exact True.intro
  refine callI_pure hc ?_
  refine goE mixed ?_ <;> try with_reducible exact True.intro
  refine callI_pure he ?_
  refine goE mixed ?_ <;> try with_reducible exact True.intro
  refine si_accN 4 SaltT (sltN l) (fun i => [(6, rI i)]) l.length (fun _ => True) rfl (by simp) (by simp [sltN]) rfl (fun i => rfl) ?_ fun i hi _ => ?_
  · (with_reducible refine sxE ?_ <;> try exact True.intro)
  have hwr : IntKind.i64.wrap ((i : Int) + 1) = ((i + 1 : Nat) : Int) := wrap_succ (by omega)
  have hln := sltN_len hi
  by_cases hlt : i < l.length
  · refine goE mixed ?_ <;> try with_reducible exact True.intro
    refine ⟨fun _ => ⟨⟨by omega, hlt⟩, ⟨by omega, hlt⟩, ⟨by omega, hlt⟩, ?_⟩, fun h => absurd hlt h⟩
    have hmm := hm _ (getD_mem (d := (Ty.slice .u8).dflt) hlt)
    have hst := sltN_succ hlt
    have hse : sltR (l.getD i (Ty.slice .u8).dflt) = ((gIntR (itmR (l.getD i (Ty.slice .u8).dflt) 0) : Int), ⟨(conR (itmR (l.getD i (Ty.slice .u8).dflt) 1)).toArray⟩, (gIntR (itmR (l.getD i (Ty.slice .u8).dflt) 2) : Int)) := rfl
    generalize l.getD i (Ty.slice .u8).dflt = x at *
    have q0 := itmR_len x 0
    have q1 := itmR_len x 1
    have q2 := itmR_len x 2
    have q3 := conR_len (itmR x 1)
    refine callR_pure (item_c x 0 (by omega) (by omega)) ?_
    refine goE mixed ?_ <;> try with_reducible exact True.intro
    refine callR_pure (getInt_c _ (by omega)) ?_
    refine goE mixed ?_ <;> try with_reducible exact True.intro
    refine callR_pure (item_c x 1 (by omega) (by omega)) ?_
    refine goE mixed ?_ <;> try with_reducible exact True.intro
    refine callR_pure (contents_c _ (by omega)) ?_
    refine goE mixed ?_ <;> try with_reducible exact True.intro
    refine callR_pure (item_c x 2 (by omega) (by omega)) ?_
    refine goE mixed ?_ <;> try with_reducible exact True.intro
    refine callR_pure (getInt_c _ (by omega)) ?_
    refine goE mixed ?_ <;> try with_reducible exact True.intro
    refine ⟨by show (conR _).toArray.size ≤ _; simp; omega, ⟨by omega, by omega⟩, acc_next [_, _] [] hlt trivial (by rw [hst, hse]; rfl) ?_⟩
    simp (maxSteps := 3000000) only [hwr, hst, List.length_append, go_sem, ↓zA, ↓reduceIte, ↓reduceDIte, reduceCtorEq, Nat.reduceAdd, Nat.reduceSub, Nat.reduceLeDiff, Nat.reduceLT, Nat.reduceEqDiff, Nat.reduceBEq, Nat.reduceMul, Int.reduceToNat, Int.reduceEq, Int.reduceLT, Int.reduceLE] <;> try simp only [zB]
  · obtain rfl : i = l.length := by omega
    have hall : sltN l l.length = l.map sltR := by unfold sltN; rw [List.take_length]
    rw [hall]
    rw [hall] at hln
    generalize l.map sltR = out at *
    refine si_freeze 0 rfl rfl (by omega) ?_ ?_ ?_
    · (with_reducible refine sxE ?_ <;> try exact True.intro)
    · (with_reducible refine sxE ?_ <;> try exact True.intro)
      exact Nat.le_refl _
    (with_reducible refine sxE ?_ <;> try exact True.intro)
    rw [List.take_of_length_le (Nat.le_refl _)]
    refine goE mixed ?_ <;> try with_reducible exact True.intro
    refine ⟨fun h => absurd h hlt, fun _ => callR_pure (rvoffer_c out (by omega)) ?_⟩
    cases hv : vOffer out with
    | false =>
      refine goE mixed ?_ <;> try with_reducible exact True.intro
      exact ⟨rfl, rfl⟩
    | true =>
      refine goE mixed ?_ <;> try with_reducible exact True.intro
      refine callR_pure (rencOffer_c out hv) ?_
      refine goE mixed ?_ <;> try with_reducible exact True.intro
      refine ⟨fun q => ?_, fun q => ?_⟩
      · have : ¬ offerS out = b := fun e => q (by rw [e])
        rw [if_neg this]; exact ⟨rfl, rfl⟩
      · have : offerS out = b := by simpa [strOf] using q
        rw [if_pos this]; exact ⟨rfl, rfl⟩
end Go.Proofs.YtddmkgibghohkaaGreatDoor
/- Contracts: the law of offers. -/
namespace Go.Proofs.YtddmkgibghohkaaGreatDoor
open Go Go.Sx Go.Proofs
set_option maxRecDepth 100000
set_option maxHeartbeats 4000000
set_option linter.unusedSimpArgs false

def l300 (l : List Salt) (j : Nat) : Bool := decide (((l.getD j SaltT.dflt).2.1.size : Int) ≤ 300)
theorem offers_law (l : List Salt) (ho : (Ty.slice SaltT).ok l) (b : List UInt8) : PC Tryz.prog 7 [.isl SaltT l, .isl .u8 b] (rB true) := by
  have hl := ho.1
  refine pc_of rfl rfl ?_
  refine runE mixed fi7 ?_ <;> try with_reducible exact True.intro
  refine ⟨fun h1 => ⟨fun h2 => callI_pure known_c ?_, fun h2 => ?_⟩, fun h1 => callI_pure known_c ?_⟩
  · refine goE mixed ?_ <;> try with_reducible exact True.intro
  rotate_left
  · refine goE mixed ?_ <;> try with_reducible exact True.intro
  refine si_cntD (fun i => [(5, .raw (.int .i64 ((i : Nat) : Int)))]) (l.length) (fun j => (l300 l) j = true) (by first | decide | simp) (fun i => rfl) ?_ fun i hi hall => ?_
  · (with_reducible refine sxE ?_ <;> try exact True.intro)
    all_goals (try rfl)
  have hwr : IntKind.i64.wrap ((i : Int) + 1) = ((i + 1 : Nat) : Int) := wrap_succ (by omega)
  refine goE mixed ?_ <;> try with_reducible exact True.intro
  have bad : i < (l.length) → (l300 l) i = false → allN (l.length) (l300 l) = false := fun hlt hv => allN_false hlt hv
  have fin : ¬ i < (l.length) → allN (l.length) (l300 l) = true := fun h => allN_true fun j hj => hall j (by omega)
  try dsimp only at bad fin hall
  refine ⟨fun hlt => ⟨⟨by omega, hlt⟩, fun h => callI_pure known_c ?_, fun h => ?_⟩, fun hge => callI_pure (encodeOffer_c l ho) ?_⟩
  · refine goE mixed ?_ <;> try with_reducible exact True.intro
  · refine ⟨hlt, next_all hall (decide_eq_true (by omega)), ⟨[], rfl⟩, ?_⟩
    simp (maxSteps := 3000000) only [hwr, go_sem, ↓zA, ↓reduceIte, ↓reduceDIte, reduceCtorEq, Nat.reduceAdd, Nat.reduceSub, Nat.reduceLeDiff, Nat.reduceLT, Nat.reduceEqDiff, Nat.reduceBEq, Nat.reduceMul, Int.reduceToNat, Int.reduceEq, Int.reduceLT, Int.reduceLE] <;> try simp only [zB]
  have hdo := decodeOffer_c b (by omega)
  have hrd := rdecOffer_c b (by omega)
  have hso := rsameOffer_c ((decOffer b).getD []) ((decOffer b).getD []) (by
    cases hd : decOffer b with
    | none => simp
    | some m =>
      have := ((decOffer_iff b m).1 hd).1
      simp only [vOffer, Bool.and_eq_true, decide_eq_true_eq] at this
      simp only [Option.getD_some]
      omega)
  rw [decide_eq_true rfl] at hso
  generalize (decOffer b).getD [] = D at *
  generalize (if (decOffer b).isSome then (0 : Int) else 6) = N at *
  cases hv : vOffer l with
  | false =>
    refine goE mixed ?_ <;> try with_reducible exact True.intro
    have hr := rvoffer_c l hl
    rw [hv] at hr
    refine callI_pure hr ?_
    refine goE mixed ?_ <;> try with_reducible exact True.intro
    refine callI_pure (lnum_c _) ?_
    refine goE mixed ?_ <;> try with_reducible exact True.intro
    refine callI_pure hdo ?_
    refine goE mixed ?_ <;> try with_reducible exact True.intro
    refine callI_pure hrd ?_
    refine goE mixed ?_ <;> try with_reducible exact True.intro
    refine callI_pure hso ?_
    refine goE mixed ?_ <;> try with_reducible exact True.intro
    refine callI_pure (lnum_c _) ?_
    refine goE mixed ?_ <;> try with_reducible exact True.intro
    refine callI_pure known_c ?_
    refine goE mixed ?_ <;> try with_reducible exact True.intro
  | true =>
    refine goE mixed ?_ <;> try with_reducible exact True.intro
    have hr := rvoffer_c l hl
    rw [hv] at hr
    refine callI_pure hr ?_
    refine goE mixed ?_ <;> try with_reducible exact True.intro
    refine callR_pure (rencOffer_c l hv) ?_
    refine goE mixed ?_ <;> try with_reducible exact True.intro
    refine callR_pure (lnum_c _) ?_
    refine goE mixed ?_ <;> try with_reducible exact True.intro
    refine callI_pure hdo ?_
    refine goE mixed ?_ <;> try with_reducible exact True.intro
    refine callI_pure hrd ?_
    refine goE mixed ?_ <;> try with_reducible exact True.intro
    refine callI_pure hso ?_
    refine goE mixed ?_ <;> try with_reducible exact True.intro
    refine callI_pure (lnum_c _) ?_
    refine goE mixed ?_ <;> try with_reducible exact True.intro
    refine callI_pure known_c ?_
    refine goE mixed ?_ <;> try with_reducible exact True.intro
end Go.Proofs.YtddmkgibghohkaaGreatDoor
