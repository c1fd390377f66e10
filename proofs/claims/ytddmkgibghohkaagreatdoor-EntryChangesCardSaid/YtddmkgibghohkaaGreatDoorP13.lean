/- The functions of the program in the compact form; the kernel checks each. -/
import Derived.Test.YtddmkgibghohkaaGreatDoorP8
import Derived.Test.YtddmkgibghohkaaGreatDoorProg
import Derived.KernelRfl
import Derived.Test.YtddmkgibghohkaaGreatDoorP9
import Derived.Test.YtddmkgibghohkaaGreatDoorP10
import Derived.Test.YtddmkgibghohkaaGreatDoorP11
import Derived.Test.YtddmkgibghohkaaGreatDoorP12
set_option linter.unusedSimpArgs false
set_option linter.unusedVariables false
namespace Go.Proofs.YtddmkgibghohkaaGreatDoor
open Go Go.Sx Go.Proofs
set_option maxRecDepth 100000
def ir277 : FI := ⟨22, [.tmp 2], (.seq (.reg [⟨(some 2), .mov (.const (.slice none 0 0)), none⟩]) (.seq (.reg [⟨(some 3), .mov (.const (.slice none 0 0)), none⟩]) (.seq (.seq (.reg [⟨(some 6), .mov (.tmp 0), none⟩, ⟨(some 7), .len false (.tmp 6), none⟩, ⟨(some 8), .mov (.const (.int .i64 0)), none⟩]) (.blk 0 (.loop (.seq (.reg [⟨(some 9), .bin .lss 0 (.tmp 8) (.tmp 7), none⟩]) (.seq (.cond (.tmp 9) .skip (.exit 0)) (.seq (.blk 1 (.seq (.reg [⟨(some 10), .mov (.tmp 8), none⟩, ⟨(some 11), .ia 1 (.tmp 6) (.tmp 8), none⟩, ⟨(some 12), .ld none (.tmp 11), none⟩, ⟨(some 4), .mov (.tmp 10), none⟩, ⟨(some 5), .mov (.tmp 12), none⟩]) (.reg [⟨(some 13), .mov (.tmp 3), none⟩, ⟨(some 14), .mov (.tmp 4), none⟩, ⟨(some 15), .mov (.tmp 5), none⟩, ⟨(some 16), .call (.func 208) [(.tmp 14), (.tmp 15)], none⟩, ⟨(some 17), .bsl (.slice .u8) 1 1 [(.slice none 0 0)] [(0, (.tmp 16))], none⟩, ⟨(some 18), .app (.slice .u8) 24 (.tmp 13) (.tmp 17), none⟩, ⟨(some 3), .mov (.tmp 18), none⟩]))) (.reg [⟨(some 19), .bin .add 0 (.tmp 8) (.const (.int .i64 1)), none⟩, ⟨(some 8), .mov (.tmp 19), none⟩]))))))) (.seq (.reg [⟨(some 20), .mov (.tmp 3), none⟩, ⟨(some 21), .call (.func 296) [(.tmp 20)], none⟩, ⟨(some 2), .mov (.tmp 21), none⟩]) .ret))))⟩
theorem fi277 : finfo Tryz.prog 277 = some ir277 := by kernel_rfl
def ir278 : FI := ⟨19, [.tmp 4], (.seq (.reg [⟨(some 4), .mov (.const (.int .i64 0)), none⟩]) (.seq (.seq (.reg [⟨(some 6), .mov (.tmp 0), none⟩, ⟨(some 7), .len false (.tmp 6), none⟩, ⟨(some 8), .mov (.const (.int .i64 0)), none⟩]) (.blk 0 (.loop (.seq (.reg [⟨(some 9), .bin .lss 0 (.tmp 8) (.tmp 7), none⟩]) (.seq (.cond (.tmp 9) .skip (.exit 0)) (.seq (.blk 1 (.seq (.reg [⟨(some 10), .mov (.tmp 8), none⟩, ⟨(some 5), .mov (.tmp 10), none⟩]) (.seq (.reg [⟨(some 11), .mov (.tmp 1), none⟩, ⟨(some 12), .mov (.tmp 0), none⟩, ⟨(some 13), .mov (.tmp 5), none⟩, ⟨(some 14), .ia 1 (.tmp 12) (.tmp 13), none⟩, ⟨(some 15), .ld none (.tmp 14), none⟩, ⟨(some 16), .bin .eql 3 (.tmp 11) (.tmp 15), none⟩]) (.cond (.tmp 16) (.seq (.reg [⟨(some 17), .mov (.tmp 5), none⟩, ⟨(some 4), .mov (.tmp 17), none⟩]) .ret) .skip)))) (.reg [⟨(some 18), .bin .add 0 (.tmp 8) (.const (.int .i64 1)), none⟩, ⟨(some 8), .mov (.tmp 18), none⟩]))))))) (.seq (.reg [⟨(some 4), .mov (.const (.int .i64 (-1))), none⟩]) .ret)))⟩
theorem fi278 : finfo Tryz.prog 278 = some ir278 := by kernel_rfl
def ir296 : FI := ⟨17, [.tmp 2], (.seq (.reg [⟨(some 2), .mov (.const (.slice none 0 0)), none⟩]) (.seq (.seq (.reg [⟨(some 5), .mov (.tmp 0), none⟩, ⟨(some 6), .len false (.tmp 5), none⟩, ⟨(some 7), .mov (.const (.int .i64 0)), none⟩]) (.blk 0 (.loop (.seq (.reg [⟨(some 8), .bin .lss 0 (.tmp 7) (.tmp 6), none⟩]) (.seq (.cond (.tmp 8) .skip (.exit 0)) (.seq (.blk 1 (.seq (.reg [⟨(some 9), .ia 1 (.tmp 5) (.tmp 7), none⟩, ⟨(some 10), .ld none (.tmp 9), none⟩, ⟨(some 4), .mov (.tmp 10), none⟩]) (.seq (.reg [⟨(some 11), .mov (.tmp 4), none⟩, ⟨(some 12), .len false (.tmp 11), none⟩, ⟨(some 13), .bin .eql 0 (.tmp 12) (.const (.int .i64 0)), none⟩]) (.cond (.tmp 13) (.seq (.reg [⟨(some 2), .mov (.const (.slice none 0 0)), none⟩]) .ret) .skip)))) (.reg [⟨(some 14), .bin .add 0 (.tmp 7) (.const (.int .i64 1)), none⟩, ⟨(some 7), .mov (.tmp 14), none⟩]))))))) (.seq (.reg [⟨(some 15), .mov (.tmp 0), none⟩, ⟨(some 16), .call (.func 133) [(.tmp 15)], none⟩, ⟨(some 2), .mov (.tmp 16), none⟩]) .ret)))⟩
theorem fi296 : finfo Tryz.prog 296 = some ir296 := by kernel_rfl
end Go.Proofs.YtddmkgibghohkaaGreatDoor
/- The functions of the program in the compact form. -/
namespace Go.Proofs.YtddmkgibghohkaaGreatDoor
open Go Go.Sx Go.Proofs
theorem mixed : Tryz.prog.follows .mixedOrders = true := by kernel_rfl
end Go.Proofs.YtddmkgibghohkaaGreatDoor
namespace Go.Sx
open Go

variable {P : Program} {AQ : Ex → List SV → List SObj → Prop} {k0 : Nat} {k : List IT} {t : List SV} {H : List SObj}

/-! ### Loops whose rounds leave garbage behind, which is dropped -/
theorem belL_set {n : Nat} {s : SV} (hs : s.bel n = true) : ∀ {l : List SV} (i : Nat), SV.belL n l = true → SV.belL n (l.set i s) = true
  | [], _, h => h
  | x :: l, 0, h => by rw [List.set_cons_zero, SV.belL] at *; simp only [Bool.and_eq_true] at *; exact ⟨hs, h.2⟩
  | x :: l, i + 1, h => by rw [List.set_cons_succ, SV.belL] at *; simp only [Bool.and_eq_true] at *; exact ⟨h.1, belL_set hs i h.2⟩
theorem belL_mask {n : Nat} : ∀ (ws : List Nat) {l : List SV}, SV.belL n l = true → SV.belL n (maskT ws l) = true
  | [], _, h => h
  | d :: ws, l, h => by
    simp only [maskT, List.foldl_cons]
    exact belL_mask ws (belL_set (s := .any) rfl d h)
theorem belL_many {n : Nat} : ∀ (u : List (Nat × SV)) {l : List SV}, (u.all fun x => x.2.bel n) = true → SV.belL n l = true → SV.belL n (setMany l u) = true
  | [], _, _, h => h
  | (i, s) :: u, l, hu, h => by
    simp only [List.all_cons, Bool.and_eq_true] at hu
    exact belL_many u hu.2 (belL_set hu.1 i h)
theorem belH_of {n : Nat} : ∀ {L : List SObj}, (∀ (h : Nat) (o : SObj), L[h]? = some o → o.bel n = true) → belH n L = true
  | [], _ => rfl
  | o :: l, h => by
    simp only [belH, Bool.and_eq_true]
    exact ⟨h 0 o rfl, belH_of fun i x hx => h (i + 1) x (by simpa using hx)⟩
theorem leM_leT : ∀ {l l' : List SV}, leM l l' → leT (fun h => h) l l'
  | [], [], _ => trivial
  | s :: l, s' :: l', h => by
    refine ⟨?_, leM_leT h.2⟩
    have := h.1
    cases s' <;> first | trivial | (simp only [leM1] at this; simp only [leS]; rw [this]; rw [ren_id])
  | [], _ :: _, h => h.elim
  | _ :: _, [], h => h.elim
/-- What lies behind is dropped, some numbers are turned: the live objects in front stay what they are. -/
theorem den_le {σ : Nat → Nat} {t' : List SV} {H' : List SObj} {E : En} {C : Cx} {a : Act} (he : E.C.n ≤ k0) (hd : Den E C t H a) (tm : leT σ t t') (bt : SV.belL H'.length t' = true)
    (hp : ∀ h o, H'[h]? = some o → o.live = true → H[σ h]? = some (o.ren σ)) (bh : belH H'.length H' = true) (inj : ∀ h h' o o', H'[h]? = some o → H'[h']? = some o' → o.live = true → o'.live = true → σ h = σ h' → h = h') (fix : ∀ h, h < k0 → σ h = h) (len : k0 ≤ H'.length) :
    Den E (C.ren σ H'.length) t' H' a := by
  have hown : ∀ b, OwnB (C.ren σ H'.length) H' b → OwnB C H b := by
    rintro b ⟨i, o, ho, hl, hb⟩
    exact ⟨σ i, _, hp i o ho hl, by rw [ren_live]; exact hl, hb⟩
  have hevo : Evo E.C (C.ren σ H'.length) := ⟨Nat.le_trans he len, fun x hx => by simp only [Cx.ren]; rw [fix x (by omega)]; exact hd.ext.evo.ρ x hx, hd.ext.evo.I, hd.ext.evo.sz⟩
  refine ⟨⟨rfl, ?_, fun b hb => hd.wd.own b (hown b hb), ?_, hd.wd.imm⟩, ⟨hevo, hd.ext.size, hd.ext.os, hd.ext.tape, hd.ext.output, hd.ext.frame, hd.ext.immNew, fun b hb => hd.ext.ownNew b (hown b hb)⟩, ?_, leT_den tm bt hd.tmps⟩
  · intro i o ho
    by_cases hl : o.live = true
    · exact objRen (belH_get bh ho) (hd.wd.obj _ _ (hp i o ho hl))
    · cases o <;> first | trivial | simp [SObj.live] at hl
  · intro i j o o' b ho ho' hl hl' hb hb'
    exact inj i j o o' ho ho' hl hl' (hd.wd.inj (σ i) (σ j) _ _ b (hp i o ho hl) (hp j o' ho' hl') (by rw [ren_live]; exact hl) (by rw [ren_live]; exact hl') hb hb')
  · obtain ⟨Ds, h1, h2, h3⟩ := hd.defs
    refine ⟨Ds, h1, h2, fun D hD => ?_⟩
    obtain ⟨q1, q2, q3, q4⟩ := h3 D hD
    exact ⟨q1, q2, fun ho => q3 (hown D ho), q4⟩

def RoundD (H : List SObj) (S : Nat → List SV) (n : Nat) (p : Nat → Prop) (i : Nat) : List SV → List SObj → Prop :=
  fun t' H' => i < n ∧ p (i + 1) ∧ (∃ G, H' = H ++ G) ∧ leM t' (S (i + 1))
theorem sound_loopD {P : Program} {k : List It} (c : Code) (S : Nat → List SV) (n : Nat) (p : Nat → Prop) (h₀ : p 0) (hs : leM t (S 0)) (hk : k0 ≤ H.length) (hb : SV.belL H.length t = true → ∀ i, SV.belL H.length (S i) = true)
    (round : ∀ i, i ≤ n → p i → Sound P AQ ⟨k0, .code c :: .stop (RoundD H S n p i) :: k, S i, H⟩) : Sound P AQ ⟨k0, .code (.loop c) :: k, t, H⟩ := fun E r m C a h0 hd => by
  have hbt : ∀ i, SV.belL H.length (S i) = true := hb (by have := denL_bel hd.tmps; rwa [hd.wd.n] at this)
  have hbh : belH H.length H = true := belH_of fun h o ho => by have := obj_bel (hd.wd.obj h o ho); rwa [hd.wd.n] at this
  simp only [wpT]
  refine wpIn_loop_ghost (fun m a w => ∃ i, i ≤ n ∧ p i ∧ n - i = m ∧ ∃ C, C.w = w ∧ Den E C (S i) H a) n ⟨0, Nat.zero_le _, h₀, rfl, C, rfl, hd.wd, hd.ext, hd.defs, leL_den (leM_leL hs) hd.tmps⟩ ?_
  rintro m' a w ⟨i, hi, hp, rfl, C, rfl, hd⟩
  have h1 := round i hi hp E r m C a h0 hd
  simp only [wpT] at h1
  refine wpIn_mono h1 fun e a w hq => ?_
  cases e with
  | normal =>
    obtain ⟨C', t', H', ⟨hlt, hp', ⟨G, rfl⟩, hS⟩, rfl, hd'⟩ := hq
    refine ⟨n - (i + 1), by omega, i + 1, hlt, hp', rfl, C'.ren (fun h => h) H.length, rfl, ?_⟩
    exact den_le h0 hd' (leM_leT hS) (hbt _) (fun h o ho _ => by rw [objRen_id, List.getElem?_append_left (List.getElem?_eq_some_iff.1 ho).1]; exact ho) hbh (fun _ _ _ _ _ _ _ _ e => e) (fun _ _ => rfl) hk
  | exit id => simpa only [Exit.then, exitT] using hq
  | _ => exact hq
/-- A counting loop that carries further slots; what a round leaves behind is dropped. -/
theorem si_cntD {c : IC} (upd : Nat → List (Nat × SV)) (n : Nat) (q : Nat → Prop) (hk : k0 ≤ H.length) (hu : ∀ i, ((upd i).all fun x => x.2.bel H.length) = true) (hs : leM t (setMany (maskT c.wr t) (upd 0)))
    (round : ∀ i, i ≤ n → (∀ j, j < i → q j) → SoundI P AQ ⟨k0, .ic c :: .stop (RoundD H (fun i => setMany (maskT c.wr t) (upd i)) n (fun i => ∀ j, j < i → q j) i) :: k, setMany (maskT c.wr t) (upd i), H⟩) :
    SoundI P AQ ⟨k0, .ic (.loop c) :: k, t, H⟩ := soundI_plain (fun td' hr => by
  obtain ⟨c', r, rfl, hc, hr⟩ := hr
  obtain ⟨x, rfl, hx⟩ := comp_inv hc
  exact sound_loopD x _ n _ (fun j hj => absurd hj (Nat.not_lt_zero j)) hs hk (fun hb i => belL_many _ (hu i) (belL_mask _ hb)) (fun i hi hp => soundI_get (round i hi hp) ⟨x, _, rfl, hx, r, rfl, hr⟩)) rfl
theorem next_all {q : Nat → Prop} {i : Nat} (hall : ∀ j, j < i → q j) (h : q i) : ∀ j, j < i + 1 → q j := fun j hj => by
  by_cases e : j = i
  · subst e; exact h
  · exact hall j (by omega)

/-! ### Loops that build a row -/
/-- Handle n is met at handle m. -/
def shift (n m h : Nat) : Nat := if h = n then m else h
def RoundA (H : List SObj) (ty : Ty) (S : Nat → List SV) (xs : Nat → List ty.den) (n : Nat) (p : Nat → Prop) (i : Nat) : List SV → List SObj → Prop :=
  fun t' H' => i < n ∧ p (i + 1) ∧ ∃ G G', H' = H ++ G ++ [.row ty (xs (i + 1))] ++ G' ∧ leT (shift H.length (H.length + G.length)) t' (S (i + 1))
theorem ren_bel {n m : Nat} : (∀ {s : SV}, s.bel n = true → s.ren (shift n m) = s) ∧ (∀ {l : List SV}, SV.belL n l = true → SV.renL (shift n m) l = l) := by
  have hlt : ∀ h, decide (h < n) = true → shift n m h = h := fun h hh => by unfold shift; rw [if_neg (by have := of_decide_eq_true hh; omega)]
  refine ⟨fun {s} => ?_, fun {l} => ?_⟩
  · exact SV.rec (motive_1 := fun s => s.bel n = true → s.ren (shift n m) = s) (motive_2 := fun l => SV.belL n l = true → SV.renL (shift n m) l = l)
      (by intro h; rw [SV.ren]) (by intros; rw [SV.ren]) (by intros; rw [SV.ren]) (by intros; rw [SV.ren]) (by intros; rw [SV.ren]) (fun h _ hb => by rw [SV.bel] at hb; rw [SV.ren, hlt _ hb]) (fun h _ _ _ hb => by rw [SV.bel] at hb; rw [SV.ren, hlt _ hb]) (fun h _ _ hb => by rw [SV.bel] at hb; rw [SV.ren, hlt _ hb]) (fun h _ _ _ hb => by rw [SV.bel] at hb; rw [SV.ren, hlt _ hb]) (fun h _ _ hb => by rw [SV.bel] at hb; rw [SV.ren, hlt _ hb])
      (fun l ih hb => by rw [SV.bel] at hb; rw [SV.ren, ih hb]) (fun l ih hb => by rw [SV.bel] at hb; rw [SV.ren, ih hb]) (fun f a b iha ihb hb => by rw [SV.bel, Bool.and_eq_true] at hb; rw [SV.ren, iha hb.1, ihb hb.2]) (fun T x ih hb => by rw [SV.bel] at hb; rw [SV.ren, ih hb]) (fun h hb => by rw [SV.bel] at hb; rw [SV.ren, hlt _ hb]) (by intros; rw [SV.ren])
      (fun _ => by rw [SV.renL]) (fun s l ihs ihl hb => by rw [SV.belL, Bool.and_eq_true] at hb; rw [SV.renL, ihs hb.1, ihl hb.2]) s
  · exact SV.rec_1 (motive_1 := fun s => s.bel n = true → s.ren (shift n m) = s) (motive_2 := fun l => SV.belL n l = true → SV.renL (shift n m) l = l)
      (by intro h; rw [SV.ren]) (by intros; rw [SV.ren]) (by intros; rw [SV.ren]) (by intros; rw [SV.ren]) (by intros; rw [SV.ren]) (fun h _ hb => by rw [SV.bel] at hb; rw [SV.ren, hlt _ hb]) (fun h _ _ _ hb => by rw [SV.bel] at hb; rw [SV.ren, hlt _ hb]) (fun h _ _ hb => by rw [SV.bel] at hb; rw [SV.ren, hlt _ hb]) (fun h _ _ _ hb => by rw [SV.bel] at hb; rw [SV.ren, hlt _ hb]) (fun h _ _ hb => by rw [SV.bel] at hb; rw [SV.ren, hlt _ hb])
      (fun l ih hb => by rw [SV.bel] at hb; rw [SV.ren, ih hb]) (fun l ih hb => by rw [SV.bel] at hb; rw [SV.ren, ih hb]) (fun f a b iha ihb hb => by rw [SV.bel, Bool.and_eq_true] at hb; rw [SV.ren, iha hb.1, ihb hb.2]) (fun T x ih hb => by rw [SV.bel] at hb; rw [SV.ren, ih hb]) (fun h hb => by rw [SV.bel] at hb; rw [SV.ren, hlt _ hb]) (by intros; rw [SV.ren])
      (fun _ => by rw [SV.renL]) (fun s l ihs ihl hb => by rw [SV.belL, Bool.and_eq_true] at hb; rw [SV.renL, ihs hb.1, ihl hb.2]) l
theorem sound_loopA {P : Program} {k : List It} (c : Code) (ty : Ty) (S : Nat → List SV) (xs : Nat → List ty.den) (n : Nat) (p : Nat → Prop) (h₀ : p 0) (hs : leM t (S 0)) (hk : k0 ≤ H.length) (hx0 : xs 0 = []) (hbh : belH H.length H = true) (hb : SV.belL (H.length + 1) t = true → ∀ i, SV.belL (H.length + 1) (S i) = true)
    (round : ∀ i, i ≤ n → p i → Sound P AQ ⟨k0, .code c :: .stop (RoundA H ty S xs n p i) :: k, S i, H ++ [.row ty (xs i)]⟩) : Sound P AQ ⟨k0, .code (.loop c) :: k, t, H ++ [.row ty []]⟩ := fun E r m C a h0 hd => by
  have hbt : ∀ i, SV.belL (H.length + 1) (S i) = true := hb (by have := denL_bel hd.tmps; rw [hd.wd.n] at this; simpa using this)
  have hbh' : ∀ ys : List ty.den, belH (H.length + 1) (H ++ [.row ty ys]) = true := fun ys => belH_of fun h o ho => by
    rcases get_append_some ho with ⟨_, ho⟩ | ⟨_, rfl⟩
    · have := obj_bel (hd.wd.obj h o (by rw [List.getElem?_append_left (List.getElem?_eq_some_iff.1 ho).1]; exact ho)); rw [hd.wd.n] at this; simpa using this
    · rfl
  simp only [wpT]
  refine wpIn_loop_ghost (fun m a w => ∃ i, i ≤ n ∧ p i ∧ n - i = m ∧ ∃ C, C.w = w ∧ Den E C (S i) (H ++ [.row ty (xs i)]) a) n ⟨0, Nat.zero_le _, h₀, rfl, C, rfl, by rw [hx0]; exact hd.wd, by rw [hx0]; exact hd.ext, by rw [hx0]; exact hd.defs, leL_den (leM_leL hs) hd.tmps⟩ ?_
  rintro m' a w ⟨i, hi, hp, rfl, C, rfl, hd⟩
  have h1 := round i hi hp E r m C a h0 hd
  simp only [wpT] at h1
  refine wpIn_mono h1 fun e a w hq => ?_
  cases e with
  | normal =>
    obtain ⟨C', t', H', ⟨hlt, hp', G, G', rfl, hS⟩, rfl, hd'⟩ := hq
    refine ⟨n - (i + 1), by omega, i + 1, hlt, hp', rfl, C'.ren (shift H.length (H.length + G.length)) (H ++ [SObj.row ty (xs (i + 1))]).length, rfl, ?_⟩
    have hsh : ∀ h, h < H.length → shift H.length (H.length + G.length) h = h := fun h hh => by unfold shift; rw [if_neg (by omega)]
    have hshn : shift H.length (H.length + G.length) H.length = H.length + G.length := by unfold shift; rw [if_pos rfl]
    refine den_le h0 hd' hS (by simpa using hbt (i + 1)) (fun h o ho hl => ?_) (by simpa using hbh' (xs (i + 1))) (fun h h' o o' ho ho' _ _ e => ?_) (fun h hh => hsh h (Nat.lt_of_lt_of_le hh hk)) (by simp; exact Nat.le_succ_of_le hk)
    · rcases get_append_some ho with ⟨hh, ho⟩ | ⟨hh, rfl⟩
      · rw [hsh h hh]
        have hr : o.ren (shift H.length (H.length + G.length)) = o := by
          have hbo := belH_get hbh ho
          cases o with
          | cells T cs => simp only [SObj.ren]; rw [ren_bel.2 (by simpa [SObj.bel] using hbo)]
          | _ => rfl
        rw [hr, List.append_assoc, List.append_assoc, List.getElem?_append_left hh]; exact ho
      · subst hh
        rw [hshn]
        simp [SObj.ren]
    · have hlen : ∀ {h : Nat} {o : SObj}, (H ++ [SObj.row ty (xs (i + 1))])[h]? = some o → h ≤ H.length := fun ho => by have := (List.getElem?_eq_some_iff.1 ho).1; simp at this; omega
      have g1 := hlen ho
      have g2 := hlen ho'
      unfold shift at e
      split at e <;> split at e <;> omega
  | exit id => simpa only [Exit.then, exitT] using hq
  | _ => exact hq
/-- A counting loop that builds a row, whose slice is in one slot. -/
theorem si_accA {c : IC} (slot : Nat) (ty : Ty) (xs : Nat → List ty.den) (upd : Nat → List (Nat × SV)) (n : Nat) (q : Nat → Prop) (hk : k0 ≤ H.length) (hx0 : xs 0 = []) (hbh : belH H.length H = true) (hu : ∀ i, ((upd i).all fun x => x.2.bel (H.length + 1)) = true)
    (hs : leM t (setMany (maskT c.wr t) ((slot, .bld H.length ty 0) :: upd 0)))
    (round : ∀ i, i ≤ n → (∀ j, j < i → q j) → SoundI P AQ ⟨k0, .ic c :: .stop (RoundA H ty (fun i => setMany (maskT c.wr t) ((slot, .bld H.length ty (xs i).length) :: upd i)) xs n (fun i => ∀ j, j < i → q j) i) :: k, setMany (maskT c.wr t) ((slot, .bld H.length ty (xs i).length) :: upd i), H ++ [.row ty (xs i)]⟩) :
    SoundI P AQ ⟨k0, .ic (.loop c) :: k, t, H ++ [.row ty []]⟩ := soundI_plain (fun td' hr => by
  obtain ⟨c', r, rfl, hc, hr⟩ := hr
  obtain ⟨x, rfl, hx⟩ := comp_inv hc
  refine sound_loopA x ty _ xs n _ (fun j hj => absurd hj (Nat.not_lt_zero j)) (by rw [hx0]; exact hs) hk hx0 hbh (fun hb i => belL_many _ ?_ (belL_mask _ hb)) (fun i hi hp => soundI_get (round i hi hp) ⟨x, _, rfl, hx, r, rfl, hr⟩)
  rw [List.all_cons, Bool.and_eq_true]
  exact ⟨by rw [SV.bel]; simp, hu i⟩) rfl
attribute [go_sem] leT leS shift SV.ren SV.renL
end Go.Sx
/- The data of the statements: principals, keys, key sets, entries, salts. -/
namespace Go.Proofs.YtddmkgibghohkaaGreatDoor
open Go Go.Sx Go.Proofs
abbrev I64 : Ty := .int .i64
abbrev PrinT : Ty := .prod (.slice .str) .str
abbrev KeyT : Ty := .prod I64 (.prod I64 (.slice .u8))
abbrev SetT : Ty := .prod I64 (.prod (.slice KeyT) (.prod .str (.prod I64 I64)))
abbrev SaltT : Ty := .prod I64 (.prod .str I64)
abbrev EntT : Ty := .prod PrinT (.prod (.slice PrinT) (.prod (.int .u32) (.prod I64 (.prod (.slice SetT) (.prod .str (.prod I64 (.prod I64 (.prod I64 (.prod I64 (.prod I64 (.prod I64 (.prod I64 (.prod (.slice PrinT) (.prod (.slice PrinT) (.slice (.slice .u8))))))))))))))))
abbrev Prin := PrinT.den
abbrev Key := KeyT.den
abbrev KSet := SetT.den
abbrev Salt := SaltT.den
abbrev Ent := EntT.den
abbrev rI (n : Int) : SV := .raw (.int .i64 n)
abbrev rB (b : Bool) : SV := .raw (.bool b)
abbrev rS (s : ByteArray) : SV := .raw (.string s)
end Go.Proofs.YtddmkgibghohkaaGreatDoor
/- Contracts: between, every, ordered. -/
namespace Go.Proofs.YtddmkgibghohkaaGreatDoor
open Go Go.Sx Go.Proofs
set_option maxRecDepth 100000
set_option maxHeartbeats 4000000
set_option linter.unusedSimpArgs false

theorem btw_c (v lo hi : Int) : PC Tryz.prog 89 [rI v, rI lo, rI hi] (rB (decide (lo ≤ v) && decide (v ≤ hi))) := by
  refine pc_of rfl rfl ?_
  refine vc_fi fi89 (run_sound mixed 600 _ ?_)
  simp (maxSteps := 3000000) only [ir89, go_sem, ↓bothG_tt, ↓bothG_tf, ↓bothG_ft, ↓bothG_ff, ↓reduceIte, ↓reduceDIte, reduceCtorEq, Nat.reduceAdd, Nat.reduceSub, Nat.reduceLeDiff, Nat.reduceLT, Nat.reduceEqDiff, Nat.reduceBEq, Nat.reduceMul, Int.reduceToNat, Int.reduceEq, Int.reduceLT, Int.reduceLE] <;> try simp only [bothG_t, bothG_f, decide_eq_true_eq, decide_eq_false_iff_not, Bool.not_eq_true', Bool.not_eq_false', Int.ofNat_lt, Int.ofNat_le]
  grind

/-- A function value that tells of each element. -/
def Fits (P : Program) (g : Nat) (ca : List SV) {t : Ty} (arg : t.den → SV) (l : List t.den) (p : t.den → Bool) (H : List SObj) : Prop :=
  ∀ x ∈ l, ∀ G, PCH P g (arg x :: ca) (rB (p x)) (H ++ G)

theorem every_int (l : List (I64).den) (m : Int) (g : Nat) (ca : List SV) (p : (I64).den → Bool) (H : List SObj) (hl : l.length ≤ 1125899906842624)
    (hp : Fits Tryz.prog g ca (t := I64) (fun x => rI x) l p H) :
    PCH Tryz.prog 87 [.isl (I64) l, rI m, .fn g [] ca] (rB (decide ((l.length : Int) ≤ m) && l.all p)) H := by
  refine pch_drop rfl ?_
  refine vc_fi fi87 (run_sound mixed 600 _ ?_)
  simp (maxSteps := 3000000) only [ir87, go_sem, ↓bothG_tt, ↓bothG_tf, ↓bothG_ft, ↓bothG_ff, ↓reduceIte, ↓reduceDIte, reduceCtorEq, Nat.reduceAdd, Nat.reduceSub, Nat.reduceLeDiff, Nat.reduceLT, Nat.reduceEqDiff, Nat.reduceBEq, Nat.reduceMul, Int.reduceToNat, Int.reduceEq, Int.reduceLT, Int.reduceLE] <;> try simp only [bothG_t, bothG_f, decide_eq_true_eq, decide_eq_false_iff_not, Bool.not_eq_true', Bool.not_eq_false', Int.ofNat_lt, Int.ofNat_le]
  refine ⟨fun h => ⟨?_, [], by simp⟩, fun h => ?_⟩
  · have : ¬ ((l.length : Int) ≤ m) := by simpa using h
    simp [this]
  have hm : (l.length : Int) ≤ m := by simpa using h
  refine si_loopX (ι := Nat × List SObj) (fun x => [(15, rI x.1)]) (fun x => H ++ x.2) (fun x => l.length - x.1) (fun x => x.1 ≤ l.length ∧ (l.take x.1).all p = true) (0, []) (by simp) (by simp) ?_ ?_
  · simp (maxSteps := 3000000) only [go_sem, ↓bothG_tt, ↓bothG_tf, ↓bothG_ft, ↓bothG_ff, ↓reduceIte, ↓reduceDIte, reduceCtorEq, Nat.reduceAdd, Nat.reduceSub, Nat.reduceLeDiff, Nat.reduceLT, Nat.reduceEqDiff, Nat.reduceBEq, Nat.reduceMul, Int.reduceToNat, Int.reduceEq, Int.reduceLT, Int.reduceLE] <;> try simp only [bothG_t, bothG_f, decide_eq_true_eq, decide_eq_false_iff_not, Bool.not_eq_true', Bool.not_eq_false', Int.ofNat_lt, Int.ofNat_le]
  rintro ⟨i, G⟩ ⟨hi, hall⟩
  dsimp only at hi hall
  refine run_sound mixed 600 _ ?_
  simp (maxSteps := 3000000) only [go_sem, ↓bothG_tt, ↓bothG_tf, ↓bothG_ft, ↓bothG_ff, ↓reduceIte, ↓reduceDIte, reduceCtorEq, Nat.reduceAdd, Nat.reduceSub, Nat.reduceLeDiff, Nat.reduceLT, Nat.reduceEqDiff, Nat.reduceBEq, Nat.reduceMul, Int.reduceToNat, Int.reduceEq, Int.reduceLT, Int.reduceLE] <;> try simp only [bothG_t, bothG_f, decide_eq_true_eq, decide_eq_false_iff_not, Bool.not_eq_true', Bool.not_eq_false', Int.ofNat_lt, Int.ofNat_le]
  refine ⟨fun hlt => ?_, fun hge => ?_⟩
  · have hlt : i < l.length := by simpa using hlt
    refine ⟨⟨by omega, hlt⟩, callI_at (hp _ (getD_mem hlt) G) ?_⟩
    refine run_sound mixed 600 _ ?_
    simp (maxSteps := 3000000) only [go_sem, ↓bothG_tt, ↓bothG_tf, ↓bothG_ft, ↓bothG_ff, ↓reduceIte, ↓reduceDIte, reduceCtorEq, Nat.reduceAdd, Nat.reduceSub, Nat.reduceLeDiff, Nat.reduceLT, Nat.reduceEqDiff, Nat.reduceBEq, Nat.reduceMul, Int.reduceToNat, Int.reduceEq, Int.reduceLT, Int.reduceLE] <;> try simp only [bothG_t, bothG_f, decide_eq_true_eq, decide_eq_false_iff_not, Bool.not_eq_true', Bool.not_eq_false', Int.ofNat_lt, Int.ofNat_le]
    refine ⟨fun hn => ⟨?_, G, rfl⟩, fun hy => ?_⟩
    · rw [all_of_not hlt (by simpa using hn)]; simp
    · refine ⟨(i + 1, G), ⟨hlt, ?_⟩, by dsimp only; omega, rfl, ?_⟩
      · rw [all_take_succ hlt, hall]; simpa using hy
      · simp (maxSteps := 3000000) only [go_sem, ↓bothG_tt, ↓bothG_tf, ↓bothG_ft, ↓bothG_ff, ↓reduceIte, ↓reduceDIte, reduceCtorEq, Nat.reduceAdd, Nat.reduceSub, Nat.reduceLeDiff, Nat.reduceLT, Nat.reduceEqDiff, Nat.reduceBEq, Nat.reduceMul, Int.reduceToNat, Int.reduceEq, Int.reduceLT, Int.reduceLE] <;> try simp only [bothG_t, bothG_f, decide_eq_true_eq, decide_eq_false_iff_not, Bool.not_eq_true', Bool.not_eq_false', Int.ofNat_lt, Int.ofNat_le]
        rw [wrapi (by omega)]; simp
  · refine ⟨?_, G, rfl⟩
    rw [all_of_take (by simpa using hge) hall]
    simp [hm]
theorem every_bytes (l : List (Ty.slice Ty.u8).den) (m : Int) (g : Nat) (ca : List SV) (p : (Ty.slice Ty.u8).den → Bool) (H : List SObj) (hl : l.length ≤ 1125899906842624)
    (hp : Fits Tryz.prog g ca (t := Ty.slice Ty.u8) (fun x => SV.isl Ty.u8 x) l p H) :
    PCH Tryz.prog 94 [.isl (Ty.slice Ty.u8) l, rI m, .fn g [] ca] (rB (decide ((l.length : Int) ≤ m) && l.all p)) H := by
  refine pch_drop rfl ?_
  refine vc_fi fi94 (run_sound mixed 600 _ ?_)
  simp (maxSteps := 3000000) only [ir94, go_sem, ↓bothG_tt, ↓bothG_tf, ↓bothG_ft, ↓bothG_ff, ↓reduceIte, ↓reduceDIte, reduceCtorEq, Nat.reduceAdd, Nat.reduceSub, Nat.reduceLeDiff, Nat.reduceLT, Nat.reduceEqDiff, Nat.reduceBEq, Nat.reduceMul, Int.reduceToNat, Int.reduceEq, Int.reduceLT, Int.reduceLE] <;> try simp only [bothG_t, bothG_f, decide_eq_true_eq, decide_eq_false_iff_not, Bool.not_eq_true', Bool.not_eq_false', Int.ofNat_lt, Int.ofNat_le]
  refine ⟨fun h => ⟨?_, [], by simp⟩, fun h => ?_⟩
  · have : ¬ ((l.length : Int) ≤ m) := by simpa using h
    simp [this]
  have hm : (l.length : Int) ≤ m := by simpa using h
  refine si_loopX (ι := Nat × List SObj) (fun x => [(15, rI x.1)]) (fun x => H ++ x.2) (fun x => l.length - x.1) (fun x => x.1 ≤ l.length ∧ (l.take x.1).all p = true) (0, []) (by simp) (by simp) ?_ ?_
  · simp (maxSteps := 3000000) only [go_sem, ↓bothG_tt, ↓bothG_tf, ↓bothG_ft, ↓bothG_ff, ↓reduceIte, ↓reduceDIte, reduceCtorEq, Nat.reduceAdd, Nat.reduceSub, Nat.reduceLeDiff, Nat.reduceLT, Nat.reduceEqDiff, Nat.reduceBEq, Nat.reduceMul, Int.reduceToNat, Int.reduceEq, Int.reduceLT, Int.reduceLE] <;> try simp only [bothG_t, bothG_f, decide_eq_true_eq, decide_eq_false_iff_not, Bool.not_eq_true', Bool.not_eq_false', Int.ofNat_lt, Int.ofNat_le]
  rintro ⟨i, G⟩ ⟨hi, hall⟩
  dsimp only at hi hall
  refine run_sound mixed 600 _ ?_
  simp (maxSteps := 3000000) only [go_sem, ↓bothG_tt, ↓bothG_tf, ↓bothG_ft, ↓bothG_ff, ↓reduceIte, ↓reduceDIte, reduceCtorEq, Nat.reduceAdd, Nat.reduceSub, Nat.reduceLeDiff, Nat.reduceLT, Nat.reduceEqDiff, Nat.reduceBEq, Nat.reduceMul, Int.reduceToNat, Int.reduceEq, Int.reduceLT, Int.reduceLE] <;> try simp only [bothG_t, bothG_f, decide_eq_true_eq, decide_eq_false_iff_not, Bool.not_eq_true', Bool.not_eq_false', Int.ofNat_lt, Int.ofNat_le]
  refine ⟨fun hlt => ?_, fun hge => ?_⟩
  · have hlt : i < l.length := by simpa using hlt
    refine ⟨⟨by omega, hlt⟩, callI_at (hp _ (getD_mem hlt) G) ?_⟩
    refine run_sound mixed 600 _ ?_
    simp (maxSteps := 3000000) only [go_sem, ↓bothG_tt, ↓bothG_tf, ↓bothG_ft, ↓bothG_ff, ↓reduceIte, ↓reduceDIte, reduceCtorEq, Nat.reduceAdd, Nat.reduceSub, Nat.reduceLeDiff, Nat.reduceLT, Nat.reduceEqDiff, Nat.reduceBEq, Nat.reduceMul, Int.reduceToNat, Int.reduceEq, Int.reduceLT, Int.reduceLE] <;> try simp only [bothG_t, bothG_f, decide_eq_true_eq, decide_eq_false_iff_not, Bool.not_eq_true', Bool.not_eq_false', Int.ofNat_lt, Int.ofNat_le]
    refine ⟨fun hn => ⟨?_, G, rfl⟩, fun hy => ?_⟩
    · rw [all_of_not hlt (by simpa using hn)]; simp
    · refine ⟨(i + 1, G), ⟨hlt, ?_⟩, by dsimp only; omega, rfl, ?_⟩
      · rw [all_take_succ hlt, hall]; simpa using hy
      · simp (maxSteps := 3000000) only [go_sem, ↓bothG_tt, ↓bothG_tf, ↓bothG_ft, ↓bothG_ff, ↓reduceIte, ↓reduceDIte, reduceCtorEq, Nat.reduceAdd, Nat.reduceSub, Nat.reduceLeDiff, Nat.reduceLT, Nat.reduceEqDiff, Nat.reduceBEq, Nat.reduceMul, Int.reduceToNat, Int.reduceEq, Int.reduceLT, Int.reduceLE] <;> try simp only [bothG_t, bothG_f, decide_eq_true_eq, decide_eq_false_iff_not, Bool.not_eq_true', Bool.not_eq_false', Int.ofNat_lt, Int.ofNat_le]
        rw [wrapi (by omega)]; simp
  · refine ⟨?_, G, rfl⟩
    rw [all_of_take (by simpa using hge) hall]
    simp [hm]

theorem every_prin (l : List (PrinT).den) (m : Int) (g : Nat) (ca : List SV) (p : (PrinT).den → Bool) (H : List SObj) (hl : l.length ≤ 1125899906842624)
    (hp : Fits Tryz.prog g ca (t := PrinT) (fun x => .agg ((PrinT).cells x)) l p H) :
    PCH Tryz.prog 167 [.isl (PrinT) l, rI m, .fn g [] ca] (rB (decide ((l.length : Int) ≤ m) && l.all p)) H := by
  refine pch_drop rfl ?_
  refine vc_fi fi167 (run_sound mixed 600 _ ?_)
  simp (maxSteps := 3000000) only [ir167, go_sem, ↓bothG_tt, ↓bothG_tf, ↓bothG_ft, ↓bothG_ff, ↓reduceIte, ↓reduceDIte, reduceCtorEq, Nat.reduceAdd, Nat.reduceSub, Nat.reduceLeDiff, Nat.reduceLT, Nat.reduceEqDiff, Nat.reduceBEq, Nat.reduceMul, Int.reduceToNat, Int.reduceEq, Int.reduceLT, Int.reduceLE] <;> try simp only [bothG_t, bothG_f, decide_eq_true_eq, decide_eq_false_iff_not, Bool.not_eq_true', Bool.not_eq_false', Int.ofNat_lt, Int.ofNat_le]
  refine ⟨fun h => ⟨?_, [], by simp⟩, fun h => ?_⟩
  · have : ¬ ((l.length : Int) ≤ m) := by simpa using h
    simp [this]
  have hm : (l.length : Int) ≤ m := by simpa using h
  refine si_loopX (ι := Nat × List SObj) (fun x => [(15, rI x.1)]) (fun x => H ++ x.2) (fun x => l.length - x.1) (fun x => x.1 ≤ l.length ∧ (l.take x.1).all p = true) (0, []) (by simp) (by simp) ?_ ?_
  · simp (maxSteps := 3000000) only [go_sem, ↓bothG_tt, ↓bothG_tf, ↓bothG_ft, ↓bothG_ff, ↓reduceIte, ↓reduceDIte, reduceCtorEq, Nat.reduceAdd, Nat.reduceSub, Nat.reduceLeDiff, Nat.reduceLT, Nat.reduceEqDiff, Nat.reduceBEq, Nat.reduceMul, Int.reduceToNat, Int.reduceEq, Int.reduceLT, Int.reduceLE] <;> try simp only [bothG_t, bothG_f, decide_eq_true_eq, decide_eq_false_iff_not, Bool.not_eq_true', Bool.not_eq_false', Int.ofNat_lt, Int.ofNat_le]
  rintro ⟨i, G⟩ ⟨hi, hall⟩
  dsimp only at hi hall
  refine run_sound mixed 600 _ ?_
  simp (maxSteps := 3000000) only [go_sem, ↓bothG_tt, ↓bothG_tf, ↓bothG_ft, ↓bothG_ff, ↓reduceIte, ↓reduceDIte, reduceCtorEq, Nat.reduceAdd, Nat.reduceSub, Nat.reduceLeDiff, Nat.reduceLT, Nat.reduceEqDiff, Nat.reduceBEq, Nat.reduceMul, Int.reduceToNat, Int.reduceEq, Int.reduceLT, Int.reduceLE] <;> try simp only [bothG_t, bothG_f, decide_eq_true_eq, decide_eq_false_iff_not, Bool.not_eq_true', Bool.not_eq_false', Int.ofNat_lt, Int.ofNat_le]
  refine ⟨fun hlt => ?_, fun hge => ?_⟩
  · have hlt : i < l.length := by simpa using hlt
    refine ⟨⟨by omega, hlt⟩, callI_at' (hp _ (getD_mem (d := (PrinT).dflt) hlt) (G ++ _)) (List.append_assoc _ _ _) rfl ?_⟩
    refine run_sound mixed 600 _ ?_
    simp (maxSteps := 3000000) only [go_sem, ↓bothG_tt, ↓bothG_tf, ↓bothG_ft, ↓bothG_ff, ↓reduceIte, ↓reduceDIte, reduceCtorEq, Nat.reduceAdd, Nat.reduceSub, Nat.reduceLeDiff, Nat.reduceLT, Nat.reduceEqDiff, Nat.reduceBEq, Nat.reduceMul, Int.reduceToNat, Int.reduceEq, Int.reduceLT, Int.reduceLE] <;> try simp only [bothG_t, bothG_f, decide_eq_true_eq, decide_eq_false_iff_not, Bool.not_eq_true', Bool.not_eq_false', Int.ofNat_lt, Int.ofNat_le]
    refine ⟨fun hn => ⟨?_, G ++ _, List.append_assoc _ _ _⟩, fun hy => ?_⟩
    · rw [all_of_not hlt (by simpa using hn)]; simp
    · refine ⟨(i + 1, G ++ _), ⟨hlt, ?_⟩, by dsimp only; omega, List.append_assoc _ _ _, ?_⟩
      · rw [all_take_succ hlt, hall]; simpa using hy
      · simp (maxSteps := 3000000) only [go_sem, ↓bothG_tt, ↓bothG_tf, ↓bothG_ft, ↓bothG_ff, ↓reduceIte, ↓reduceDIte, reduceCtorEq, Nat.reduceAdd, Nat.reduceSub, Nat.reduceLeDiff, Nat.reduceLT, Nat.reduceEqDiff, Nat.reduceBEq, Nat.reduceMul, Int.reduceToNat, Int.reduceEq, Int.reduceLT, Int.reduceLE] <;> try simp only [bothG_t, bothG_f, decide_eq_true_eq, decide_eq_false_iff_not, Bool.not_eq_true', Bool.not_eq_false', Int.ofNat_lt, Int.ofNat_le]
        rw [wrapi (by omega)]; simp
  · refine ⟨?_, G, rfl⟩
    rw [all_of_take (by simpa using hge) hall]
    simp [hm]
theorem every_key (l : List (KeyT).den) (m : Int) (g : Nat) (ca : List SV) (p : (KeyT).den → Bool) (H : List SObj) (hl : l.length ≤ 1125899906842624)
    (hp : Fits Tryz.prog g ca (t := KeyT) (fun x => .agg ((KeyT).cells x)) l p H) :
    PCH Tryz.prog 115 [.isl (KeyT) l, rI m, .fn g [] ca] (rB (decide ((l.length : Int) ≤ m) && l.all p)) H := by
  refine pch_drop rfl ?_
  refine vc_fi fi115 (run_sound mixed 600 _ ?_)
  simp (maxSteps := 3000000) only [ir115, go_sem, ↓bothG_tt, ↓bothG_tf, ↓bothG_ft, ↓bothG_ff, ↓reduceIte, ↓reduceDIte, reduceCtorEq, Nat.reduceAdd, Nat.reduceSub, Nat.reduceLeDiff, Nat.reduceLT, Nat.reduceEqDiff, Nat.reduceBEq, Nat.reduceMul, Int.reduceToNat, Int.reduceEq, Int.reduceLT, Int.reduceLE] <;> try simp only [bothG_t, bothG_f, decide_eq_true_eq, decide_eq_false_iff_not, Bool.not_eq_true', Bool.not_eq_false', Int.ofNat_lt, Int.ofNat_le]
  refine ⟨fun h => ⟨?_, [], by simp⟩, fun h => ?_⟩
  · have : ¬ ((l.length : Int) ≤ m) := by simpa using h
    simp [this]
  have hm : (l.length : Int) ≤ m := by simpa using h
  refine si_loopX (ι := Nat × List SObj) (fun x => [(15, rI x.1)]) (fun x => H ++ x.2) (fun x => l.length - x.1) (fun x => x.1 ≤ l.length ∧ (l.take x.1).all p = true) (0, []) (by simp) (by simp) ?_ ?_
  · simp (maxSteps := 3000000) only [go_sem, ↓bothG_tt, ↓bothG_tf, ↓bothG_ft, ↓bothG_ff, ↓reduceIte, ↓reduceDIte, reduceCtorEq, Nat.reduceAdd, Nat.reduceSub, Nat.reduceLeDiff, Nat.reduceLT, Nat.reduceEqDiff, Nat.reduceBEq, Nat.reduceMul, Int.reduceToNat, Int.reduceEq, Int.reduceLT, Int.reduceLE] <;> try simp only [bothG_t, bothG_f, decide_eq_true_eq, decide_eq_false_iff_not, Bool.not_eq_true', Bool.not_eq_false', Int.ofNat_lt, Int.ofNat_le]
  rintro ⟨i, G⟩ ⟨hi, hall⟩
  dsimp only at hi hall
  refine run_sound mixed 600 _ ?_
  simp (maxSteps := 3000000) only [go_sem, ↓bothG_tt, ↓bothG_tf, ↓bothG_ft, ↓bothG_ff, ↓reduceIte, ↓reduceDIte, reduceCtorEq, Nat.reduceAdd, Nat.reduceSub, Nat.reduceLeDiff, Nat.reduceLT, Nat.reduceEqDiff, Nat.reduceBEq, Nat.reduceMul, Int.reduceToNat, Int.reduceEq, Int.reduceLT, Int.reduceLE] <;> try simp only [bothG_t, bothG_f, decide_eq_true_eq, decide_eq_false_iff_not, Bool.not_eq_true', Bool.not_eq_false', Int.ofNat_lt, Int.ofNat_le]
  refine ⟨fun hlt => ?_, fun hge => ?_⟩
  · have hlt : i < l.length := by simpa using hlt
    refine ⟨⟨by omega, hlt⟩, callI_at' (hp _ (getD_mem (d := (KeyT).dflt) hlt) (G ++ _)) (List.append_assoc _ _ _) rfl ?_⟩
    refine run_sound mixed 600 _ ?_
    simp (maxSteps := 3000000) only [go_sem, ↓bothG_tt, ↓bothG_tf, ↓bothG_ft, ↓bothG_ff, ↓reduceIte, ↓reduceDIte, reduceCtorEq, Nat.reduceAdd, Nat.reduceSub, Nat.reduceLeDiff, Nat.reduceLT, Nat.reduceEqDiff, Nat.reduceBEq, Nat.reduceMul, Int.reduceToNat, Int.reduceEq, Int.reduceLT, Int.reduceLE] <;> try simp only [bothG_t, bothG_f, decide_eq_true_eq, decide_eq_false_iff_not, Bool.not_eq_true', Bool.not_eq_false', Int.ofNat_lt, Int.ofNat_le]
    refine ⟨fun hn => ⟨?_, G ++ _, List.append_assoc _ _ _⟩, fun hy => ?_⟩
    · rw [all_of_not hlt (by simpa using hn)]; simp
    · refine ⟨(i + 1, G ++ _), ⟨hlt, ?_⟩, by dsimp only; omega, List.append_assoc _ _ _, ?_⟩
      · rw [all_take_succ hlt, hall]; simpa using hy
      · simp (maxSteps := 3000000) only [go_sem, ↓bothG_tt, ↓bothG_tf, ↓bothG_ft, ↓bothG_ff, ↓reduceIte, ↓reduceDIte, reduceCtorEq, Nat.reduceAdd, Nat.reduceSub, Nat.reduceLeDiff, Nat.reduceLT, Nat.reduceEqDiff, Nat.reduceBEq, Nat.reduceMul, Int.reduceToNat, Int.reduceEq, Int.reduceLT, Int.reduceLE] <;> try simp only [bothG_t, bothG_f, decide_eq_true_eq, decide_eq_false_iff_not, Bool.not_eq_true', Bool.not_eq_false', Int.ofNat_lt, Int.ofNat_le]
        rw [wrapi (by omega)]; simp
  · refine ⟨?_, G, rfl⟩
    rw [all_of_take (by simpa using hge) hall]
    simp [hm]
theorem every_kset (l : List (SetT).den) (m : Int) (g : Nat) (ca : List SV) (p : (SetT).den → Bool) (H : List SObj) (hl : l.length ≤ 1125899906842624)
    (hp : Fits Tryz.prog g ca (t := SetT) (fun x => .agg ((SetT).cells x)) l p H) :
    PCH Tryz.prog 169 [.isl (SetT) l, rI m, .fn g [] ca] (rB (decide ((l.length : Int) ≤ m) && l.all p)) H := by
  refine pch_drop rfl ?_
  refine vc_fi fi169 (run_sound mixed 600 _ ?_)
  simp (maxSteps := 3000000) only [ir169, go_sem, ↓bothG_tt, ↓bothG_tf, ↓bothG_ft, ↓bothG_ff, ↓reduceIte, ↓reduceDIte, reduceCtorEq, Nat.reduceAdd, Nat.reduceSub, Nat.reduceLeDiff, Nat.reduceLT, Nat.reduceEqDiff, Nat.reduceBEq, Nat.reduceMul, Int.reduceToNat, Int.reduceEq, Int.reduceLT, Int.reduceLE] <;> try simp only [bothG_t, bothG_f, decide_eq_true_eq, decide_eq_false_iff_not, Bool.not_eq_true', Bool.not_eq_false', Int.ofNat_lt, Int.ofNat_le]
  refine ⟨fun h => ⟨?_, [], by simp⟩, fun h => ?_⟩
  · have : ¬ ((l.length : Int) ≤ m) := by simpa using h
    simp [this]
  have hm : (l.length : Int) ≤ m := by simpa using h
  refine si_loopX (ι := Nat × List SObj) (fun x => [(15, rI x.1)]) (fun x => H ++ x.2) (fun x => l.length - x.1) (fun x => x.1 ≤ l.length ∧ (l.take x.1).all p = true) (0, []) (by simp) (by simp) ?_ ?_
  · simp (maxSteps := 3000000) only [go_sem, ↓bothG_tt, ↓bothG_tf, ↓bothG_ft, ↓bothG_ff, ↓reduceIte, ↓reduceDIte, reduceCtorEq, Nat.reduceAdd, Nat.reduceSub, Nat.reduceLeDiff, Nat.reduceLT, Nat.reduceEqDiff, Nat.reduceBEq, Nat.reduceMul, Int.reduceToNat, Int.reduceEq, Int.reduceLT, Int.reduceLE] <;> try simp only [bothG_t, bothG_f, decide_eq_true_eq, decide_eq_false_iff_not, Bool.not_eq_true', Bool.not_eq_false', Int.ofNat_lt, Int.ofNat_le]
  rintro ⟨i, G⟩ ⟨hi, hall⟩
  dsimp only at hi hall
  refine run_sound mixed 600 _ ?_
  simp (maxSteps := 3000000) only [go_sem, ↓bothG_tt, ↓bothG_tf, ↓bothG_ft, ↓bothG_ff, ↓reduceIte, ↓reduceDIte, reduceCtorEq, Nat.reduceAdd, Nat.reduceSub, Nat.reduceLeDiff, Nat.reduceLT, Nat.reduceEqDiff, Nat.reduceBEq, Nat.reduceMul, Int.reduceToNat, Int.reduceEq, Int.reduceLT, Int.reduceLE] <;> try simp only [bothG_t, bothG_f, decide_eq_true_eq, decide_eq_false_iff_not, Bool.not_eq_true', Bool.not_eq_false', Int.ofNat_lt, Int.ofNat_le]
  refine ⟨fun hlt => ?_, fun hge => ?_⟩
  · have hlt : i < l.length := by simpa using hlt
    refine ⟨⟨by omega, hlt⟩, callI_at' (hp _ (getD_mem (d := (SetT).dflt) hlt) (G ++ _)) (List.append_assoc _ _ _) rfl ?_⟩
    refine run_sound mixed 600 _ ?_
    simp (maxSteps := 3000000) only [go_sem, ↓bothG_tt, ↓bothG_tf, ↓bothG_ft, ↓bothG_ff, ↓reduceIte, ↓reduceDIte, reduceCtorEq, Nat.reduceAdd, Nat.reduceSub, Nat.reduceLeDiff, Nat.reduceLT, Nat.reduceEqDiff, Nat.reduceBEq, Nat.reduceMul, Int.reduceToNat, Int.reduceEq, Int.reduceLT, Int.reduceLE] <;> try simp only [bothG_t, bothG_f, decide_eq_true_eq, decide_eq_false_iff_not, Bool.not_eq_true', Bool.not_eq_false', Int.ofNat_lt, Int.ofNat_le]
    refine ⟨fun hn => ⟨?_, G ++ _, List.append_assoc _ _ _⟩, fun hy => ?_⟩
    · rw [all_of_not hlt (by simpa using hn)]; simp
    · refine ⟨(i + 1, G ++ _), ⟨hlt, ?_⟩, by dsimp only; omega, List.append_assoc _ _ _, ?_⟩
      · rw [all_take_succ hlt, hall]; simpa using hy
      · simp (maxSteps := 3000000) only [go_sem, ↓bothG_tt, ↓bothG_tf, ↓bothG_ft, ↓bothG_ff, ↓reduceIte, ↓reduceDIte, reduceCtorEq, Nat.reduceAdd, Nat.reduceSub, Nat.reduceLeDiff, Nat.reduceLT, Nat.reduceEqDiff, Nat.reduceBEq, Nat.reduceMul, Int.reduceToNat, Int.reduceEq, Int.reduceLT, Int.reduceLE] <;> try simp only [bothG_t, bothG_f, decide_eq_true_eq, decide_eq_false_iff_not, Bool.not_eq_true', Bool.not_eq_false', Int.ofNat_lt, Int.ofNat_le]
        rw [wrapi (by omega)]; simp
  · refine ⟨?_, G, rfl⟩
    rw [all_of_take (by simpa using hge) hall]
    simp [hm]
theorem every_salt (l : List (SaltT).den) (m : Int) (g : Nat) (ca : List SV) (p : (SaltT).den → Bool) (H : List SObj) (hl : l.length ≤ 1125899906842624)
    (hp : Fits Tryz.prog g ca (t := SaltT) (fun x => .agg ((SaltT).cells x)) l p H) :
    PCH Tryz.prog 129 [.isl (SaltT) l, rI m, .fn g [] ca] (rB (decide ((l.length : Int) ≤ m) && l.all p)) H := by
  refine pch_drop rfl ?_
  refine vc_fi fi129 (run_sound mixed 600 _ ?_)
  simp (maxSteps := 3000000) only [ir129, go_sem, ↓bothG_tt, ↓bothG_tf, ↓bothG_ft, ↓bothG_ff, ↓reduceIte, ↓reduceDIte, reduceCtorEq, Nat.reduceAdd, Nat.reduceSub, Nat.reduceLeDiff, Nat.reduceLT, Nat.reduceEqDiff, Nat.reduceBEq, Nat.reduceMul, Int.reduceToNat, Int.reduceEq, Int.reduceLT, Int.reduceLE] <;> try simp only [bothG_t, bothG_f, decide_eq_true_eq, decide_eq_false_iff_not, Bool.not_eq_true', Bool.not_eq_false', Int.ofNat_lt, Int.ofNat_le]
  refine ⟨fun h => ⟨?_, [], by simp⟩, fun h => ?_⟩
  · have : ¬ ((l.length : Int) ≤ m) := by simpa using h
    simp [this]
  have hm : (l.length : Int) ≤ m := by simpa using h
  refine si_loopX (ι := Nat × List SObj) (fun x => [(15, rI x.1)]) (fun x => H ++ x.2) (fun x => l.length - x.1) (fun x => x.1 ≤ l.length ∧ (l.take x.1).all p = true) (0, []) (by simp) (by simp) ?_ ?_
  · simp (maxSteps := 3000000) only [go_sem, ↓bothG_tt, ↓bothG_tf, ↓bothG_ft, ↓bothG_ff, ↓reduceIte, ↓reduceDIte, reduceCtorEq, Nat.reduceAdd, Nat.reduceSub, Nat.reduceLeDiff, Nat.reduceLT, Nat.reduceEqDiff, Nat.reduceBEq, Nat.reduceMul, Int.reduceToNat, Int.reduceEq, Int.reduceLT, Int.reduceLE] <;> try simp only [bothG_t, bothG_f, decide_eq_true_eq, decide_eq_false_iff_not, Bool.not_eq_true', Bool.not_eq_false', Int.ofNat_lt, Int.ofNat_le]
  rintro ⟨i, G⟩ ⟨hi, hall⟩
  dsimp only at hi hall
  refine run_sound mixed 600 _ ?_
  simp (maxSteps := 3000000) only [go_sem, ↓bothG_tt, ↓bothG_tf, ↓bothG_ft, ↓bothG_ff, ↓reduceIte, ↓reduceDIte, reduceCtorEq, Nat.reduceAdd, Nat.reduceSub, Nat.reduceLeDiff, Nat.reduceLT, Nat.reduceEqDiff, Nat.reduceBEq, Nat.reduceMul, Int.reduceToNat, Int.reduceEq, Int.reduceLT, Int.reduceLE] <;> try simp only [bothG_t, bothG_f, decide_eq_true_eq, decide_eq_false_iff_not, Bool.not_eq_true', Bool.not_eq_false', Int.ofNat_lt, Int.ofNat_le]
  refine ⟨fun hlt => ?_, fun hge => ?_⟩
  · have hlt : i < l.length := by simpa using hlt
    refine ⟨⟨by omega, hlt⟩, callI_at' (hp _ (getD_mem (d := (SaltT).dflt) hlt) (G ++ _)) (List.append_assoc _ _ _) rfl ?_⟩
    refine run_sound mixed 600 _ ?_
    simp (maxSteps := 3000000) only [go_sem, ↓bothG_tt, ↓bothG_tf, ↓bothG_ft, ↓bothG_ff, ↓reduceIte, ↓reduceDIte, reduceCtorEq, Nat.reduceAdd, Nat.reduceSub, Nat.reduceLeDiff, Nat.reduceLT, Nat.reduceEqDiff, Nat.reduceBEq, Nat.reduceMul, Int.reduceToNat, Int.reduceEq, Int.reduceLT, Int.reduceLE] <;> try simp only [bothG_t, bothG_f, decide_eq_true_eq, decide_eq_false_iff_not, Bool.not_eq_true', Bool.not_eq_false', Int.ofNat_lt, Int.ofNat_le]
    refine ⟨fun hn => ⟨?_, G ++ _, List.append_assoc _ _ _⟩, fun hy => ?_⟩
    · rw [all_of_not hlt (by simpa using hn)]; simp
    · refine ⟨(i + 1, G ++ _), ⟨hlt, ?_⟩, by dsimp only; omega, List.append_assoc _ _ _, ?_⟩
      · rw [all_take_succ hlt, hall]; simpa using hy
      · simp (maxSteps := 3000000) only [go_sem, ↓bothG_tt, ↓bothG_tf, ↓bothG_ft, ↓bothG_ff, ↓reduceIte, ↓reduceDIte, reduceCtorEq, Nat.reduceAdd, Nat.reduceSub, Nat.reduceLeDiff, Nat.reduceLT, Nat.reduceEqDiff, Nat.reduceBEq, Nat.reduceMul, Int.reduceToNat, Int.reduceEq, Int.reduceLT, Int.reduceLE] <;> try simp only [bothG_t, bothG_f, decide_eq_true_eq, decide_eq_false_iff_not, Bool.not_eq_true', Bool.not_eq_false', Int.ofNat_lt, Int.ofNat_le]
        rw [wrapi (by omega)]; simp
  · refine ⟨?_, G, rfl⟩
    rw [all_of_take (by simpa using hge) hall]
    simp [hm]
end Go.Proofs.YtddmkgibghohkaaGreatDoor
/- Contracts: ordered. -/
namespace Go.Proofs.YtddmkgibghohkaaGreatDoor
open Go Go.Sx Go.Proofs
set_option maxRecDepth 100000
set_option maxHeartbeats 4000000
set_option linter.unusedSimpArgs false

/-- A function value that tells of each pair of neighbours. -/
def Fits2 (P : Program) (g : Nat) (ca : List SV) {t : Ty} (l : List t.den) (p : t.den → t.den → Bool) (H : List SObj) : Prop :=
  ∀ x ∈ l, ∀ y ∈ l, ∀ G, PCH P g (.agg (t.cells x) :: .agg (t.cells y) :: ca) (rB (p x y)) (H ++ G)
theorem rb {b c : Bool} (h : b = c) : Out.ret (SV.raw (.bool b)) = Out.ret (rB c) := by rw [h]
/-- Of all numbers below n. -/
def allN (n : Nat) (q : Nat → Bool) : Bool := (List.range n).all q
theorem allN_iff {n : Nat} {q : Nat → Bool} : allN n q = true ↔ ∀ j, j < n → q j = true := by simp [allN]
theorem allN_false {n i : Nat} {q : Nat → Bool} (h : i < n) (hq : q i = false) : allN n q = false := by
  rw [Bool.eq_false_iff]; exact fun ha => by rw [allN_iff.1 ha i h] at hq; cases hq
theorem allN_true {n : Nat} {q : Nat → Bool} (h : ∀ j, j < n → q j = true) : allN n q = true := allN_iff.2 h
/-- Each one may follow the one before it. -/
def ord {t : Ty} (p : t.den → t.den → Bool) (l : List t.den) : Bool := allN (l.length - 1) fun j => p (l.getD j t.dflt) (l.getD (j + 1) t.dflt)

theorem ordered_key (l : List (KeyT).den) (g : Nat) (ca : List SV) (p : (KeyT).den → (KeyT).den → Bool) (H : List SObj) (hl : l.length ≤ 1125899906842624)
    (hp : Fits2 Tryz.prog g ca (t := KeyT) l p H) :
    PCH Tryz.prog 116 [.isl (KeyT) l, .fn g [] ca] (rB (ord p l)) H := by
  refine pch_drop rfl ?_
  refine vc_fi fi116 (run_sound mixed 600 _ ?_)
  simp (maxSteps := 3000000) only [ir116, go_sem, ↓bothG_tt, ↓bothG_tf, ↓bothG_ft, ↓bothG_ff, ↓reduceIte, ↓reduceDIte, reduceCtorEq, Nat.reduceAdd, Nat.reduceSub, Nat.reduceLeDiff, Nat.reduceLT, Nat.reduceEqDiff, Nat.reduceBEq, Nat.reduceMul, Int.reduceToNat, Int.reduceEq, Int.reduceLT, Int.reduceLE] <;> try simp only [bothG_t, bothG_f, decide_eq_true_eq, decide_eq_false_iff_not, Bool.not_eq_true', Bool.not_eq_false', Int.ofNat_lt, Int.ofNat_le]
  refine si_loopX (ι := Nat × List SObj) (fun x => [(5, rI x.1)]) (fun x => H ++ x.2) (fun x => l.length - x.1) (fun x => 1 ≤ x.1 ∧ (l ≠ [] → x.1 ≤ l.length) ∧ ∀ j, j + 1 < x.1 → p (l.getD j (KeyT).dflt) (l.getD (j + 1) (KeyT).dflt) = true) (1, []) ⟨Nat.le_refl 1, fun h => List.length_pos_iff.2 h, fun j hj => absurd hj (by dsimp only; omega)⟩ (by simp) ?_ ?_
  · simp (maxSteps := 3000000) only [go_sem, ↓bothG_tt, ↓bothG_tf, ↓bothG_ft, ↓bothG_ff, ↓reduceIte, ↓reduceDIte, reduceCtorEq, Nat.reduceAdd, Nat.reduceSub, Nat.reduceLeDiff, Nat.reduceLT, Nat.reduceEqDiff, Nat.reduceBEq, Nat.reduceMul, Int.reduceToNat, Int.reduceEq, Int.reduceLT, Int.reduceLE] <;> try simp only [bothG_t, bothG_f, decide_eq_true_eq, decide_eq_false_iff_not, Bool.not_eq_true', Bool.not_eq_false', Int.ofNat_lt, Int.ofNat_le]
    rfl
  rintro ⟨i, G⟩ ⟨h1, hi, hall⟩
  dsimp only at h1 hi hall
  refine run_sound mixed 600 _ ?_
  simp (maxSteps := 3000000) only [go_sem, ↓bothG_tt, ↓bothG_tf, ↓bothG_ft, ↓bothG_ff, ↓reduceIte, ↓reduceDIte, reduceCtorEq, Nat.reduceAdd, Nat.reduceSub, Nat.reduceLeDiff, Nat.reduceLT, Nat.reduceEqDiff, Nat.reduceBEq, Nat.reduceMul, Int.reduceToNat, Int.reduceEq, Int.reduceLT, Int.reduceLE] <;> try simp only [bothG_t, bothG_f, decide_eq_true_eq, decide_eq_false_iff_not, Bool.not_eq_true', Bool.not_eq_false', Int.ofNat_lt, Int.ofNat_le]
  refine ⟨fun hlt => ?_, fun hge => ?_⟩
  · have hlt : i < l.length := by simpa using hlt
    have e1 : IntKind.i64.wrap ((i : Int) - 1) = ((i - 1 : Nat) : Int) := by rw [wrapi (by omega)]; omega
    rw [e1]
    simp (maxSteps := 3000000) only [go_sem, ↓bothG_tt, ↓bothG_tf, ↓bothG_ft, ↓bothG_ff, ↓reduceIte, ↓reduceDIte, reduceCtorEq, Nat.reduceAdd, Nat.reduceSub, Nat.reduceLeDiff, Nat.reduceLT, Nat.reduceEqDiff, Nat.reduceBEq, Nat.reduceMul, Int.reduceToNat, Int.reduceEq, Int.reduceLT, Int.reduceLE] <;> try simp only [bothG_t, bothG_f, decide_eq_true_eq, decide_eq_false_iff_not, Bool.not_eq_true', Bool.not_eq_false', Int.ofNat_lt, Int.ofNat_le]
    refine ⟨⟨by omega, by omega⟩, ⟨by omega, hlt⟩, callR_at' (hp _ (getD_mem (d := (KeyT).dflt) (i := i - 1) (by omega)) _ (getD_mem (d := (KeyT).dflt) hlt) G) rfl rfl ?_⟩
    refine run_sound mixed 600 _ ?_
    simp (maxSteps := 3000000) only [go_sem, ↓bothG_tt, ↓bothG_tf, ↓bothG_ft, ↓bothG_ff, ↓reduceIte, ↓reduceDIte, reduceCtorEq, Nat.reduceAdd, Nat.reduceSub, Nat.reduceLeDiff, Nat.reduceLT, Nat.reduceEqDiff, Nat.reduceBEq, Nat.reduceMul, Int.reduceToNat, Int.reduceEq, Int.reduceLT, Int.reduceLE] <;> try simp only [bothG_t, bothG_f, decide_eq_true_eq, decide_eq_false_iff_not, Bool.not_eq_true', Bool.not_eq_false', Int.ofNat_lt, Int.ofNat_le]
    refine ⟨fun hn => ⟨?_, G, rfl⟩, fun hy => ?_⟩
    · exact rb (Eq.symm <| allN_false (i := i - 1) (by omega) (by rw [Nat.sub_add_cancel h1]; simpa using hn))
    · refine ⟨(i + 1, G), ⟨by omega, fun _ => hlt, fun j hj => ?_⟩, by dsimp only; omega, rfl, ?_⟩
      · by_cases hj' : j + 1 < i
        · exact hall j hj'
        · obtain rfl : j = i - 1 := by dsimp only at hj; omega
          rw [Nat.sub_add_cancel h1]; simpa using hy
      · simp (maxSteps := 3000000) only [go_sem, ↓bothG_tt, ↓bothG_tf, ↓bothG_ft, ↓bothG_ff, ↓reduceIte, ↓reduceDIte, reduceCtorEq, Nat.reduceAdd, Nat.reduceSub, Nat.reduceLeDiff, Nat.reduceLT, Nat.reduceEqDiff, Nat.reduceBEq, Nat.reduceMul, Int.reduceToNat, Int.reduceEq, Int.reduceLT, Int.reduceLE] <;> try simp only [bothG_t, bothG_f, decide_eq_true_eq, decide_eq_false_iff_not, Bool.not_eq_true', Bool.not_eq_false', Int.ofNat_lt, Int.ofNat_le]
        rw [wrapi (by omega)]; simp
  · refine ⟨?_, G, rfl⟩
    refine rb (Eq.symm <| allN_true fun j hj => hall j ?_)
    have : ¬ i < l.length := by simpa using hge
    omega
theorem ordered_kset (l : List (SetT).den) (g : Nat) (ca : List SV) (p : (SetT).den → (SetT).den → Bool) (H : List SObj) (hl : l.length ≤ 1125899906842624)
    (hp : Fits2 Tryz.prog g ca (t := SetT) l p H) :
    PCH Tryz.prog 171 [.isl (SetT) l, .fn g [] ca] (rB (ord p l)) H := by
  refine pch_drop rfl ?_
  refine vc_fi fi171 (run_sound mixed 600 _ ?_)
  simp (maxSteps := 3000000) only [ir171, go_sem, ↓bothG_tt, ↓bothG_tf, ↓bothG_ft, ↓bothG_ff, ↓reduceIte, ↓reduceDIte, reduceCtorEq, Nat.reduceAdd, Nat.reduceSub, Nat.reduceLeDiff, Nat.reduceLT, Nat.reduceEqDiff, Nat.reduceBEq, Nat.reduceMul, Int.reduceToNat, Int.reduceEq, Int.reduceLT, Int.reduceLE] <;> try simp only [bothG_t, bothG_f, decide_eq_true_eq, decide_eq_false_iff_not, Bool.not_eq_true', Bool.not_eq_false', Int.ofNat_lt, Int.ofNat_le]
  refine si_loopX (ι := Nat × List SObj) (fun x => [(5, rI x.1)]) (fun x => H ++ x.2) (fun x => l.length - x.1) (fun x => 1 ≤ x.1 ∧ (l ≠ [] → x.1 ≤ l.length) ∧ ∀ j, j + 1 < x.1 → p (l.getD j (SetT).dflt) (l.getD (j + 1) (SetT).dflt) = true) (1, []) ⟨Nat.le_refl 1, fun h => List.length_pos_iff.2 h, fun j hj => absurd hj (by dsimp only; omega)⟩ (by simp) ?_ ?_
  · simp (maxSteps := 3000000) only [go_sem, ↓bothG_tt, ↓bothG_tf, ↓bothG_ft, ↓bothG_ff, ↓reduceIte, ↓reduceDIte, reduceCtorEq, Nat.reduceAdd, Nat.reduceSub, Nat.reduceLeDiff, Nat.reduceLT, Nat.reduceEqDiff, Nat.reduceBEq, Nat.reduceMul, Int.reduceToNat, Int.reduceEq, Int.reduceLT, Int.reduceLE] <;> try simp only [bothG_t, bothG_f, decide_eq_true_eq, decide_eq_false_iff_not, Bool.not_eq_true', Bool.not_eq_false', Int.ofNat_lt, Int.ofNat_le]
    rfl
  rintro ⟨i, G⟩ ⟨h1, hi, hall⟩
  dsimp only at h1 hi hall
  refine run_sound mixed 600 _ ?_
  simp (maxSteps := 3000000) only [go_sem, ↓bothG_tt, ↓bothG_tf, ↓bothG_ft, ↓bothG_ff, ↓reduceIte, ↓reduceDIte, reduceCtorEq, Nat.reduceAdd, Nat.reduceSub, Nat.reduceLeDiff, Nat.reduceLT, Nat.reduceEqDiff, Nat.reduceBEq, Nat.reduceMul, Int.reduceToNat, Int.reduceEq, Int.reduceLT, Int.reduceLE] <;> try simp only [bothG_t, bothG_f, decide_eq_true_eq, decide_eq_false_iff_not, Bool.not_eq_true', Bool.not_eq_false', Int.ofNat_lt, Int.ofNat_le]
  refine ⟨fun hlt => ?_, fun hge => ?_⟩
  · have hlt : i < l.length := by simpa using hlt
    have e1 : IntKind.i64.wrap ((i : Int) - 1) = ((i - 1 : Nat) : Int) := by rw [wrapi (by omega)]; omega
    rw [e1]
    simp (maxSteps := 3000000) only [go_sem, ↓bothG_tt, ↓bothG_tf, ↓bothG_ft, ↓bothG_ff, ↓reduceIte, ↓reduceDIte, reduceCtorEq, Nat.reduceAdd, Nat.reduceSub, Nat.reduceLeDiff, Nat.reduceLT, Nat.reduceEqDiff, Nat.reduceBEq, Nat.reduceMul, Int.reduceToNat, Int.reduceEq, Int.reduceLT, Int.reduceLE] <;> try simp only [bothG_t, bothG_f, decide_eq_true_eq, decide_eq_false_iff_not, Bool.not_eq_true', Bool.not_eq_false', Int.ofNat_lt, Int.ofNat_le]
    refine ⟨⟨by omega, by omega⟩, ⟨by omega, hlt⟩, callR_at' (hp _ (getD_mem (d := (SetT).dflt) (i := i - 1) (by omega)) _ (getD_mem (d := (SetT).dflt) hlt) G) rfl rfl ?_⟩
    refine run_sound mixed 600 _ ?_
    simp (maxSteps := 3000000) only [go_sem, ↓bothG_tt, ↓bothG_tf, ↓bothG_ft, ↓bothG_ff, ↓reduceIte, ↓reduceDIte, reduceCtorEq, Nat.reduceAdd, Nat.reduceSub, Nat.reduceLeDiff, Nat.reduceLT, Nat.reduceEqDiff, Nat.reduceBEq, Nat.reduceMul, Int.reduceToNat, Int.reduceEq, Int.reduceLT, Int.reduceLE] <;> try simp only [bothG_t, bothG_f, decide_eq_true_eq, decide_eq_false_iff_not, Bool.not_eq_true', Bool.not_eq_false', Int.ofNat_lt, Int.ofNat_le]
    refine ⟨fun hn => ⟨?_, G, rfl⟩, fun hy => ?_⟩
    · exact rb (Eq.symm <| allN_false (i := i - 1) (by omega) (by rw [Nat.sub_add_cancel h1]; simpa using hn))
    · refine ⟨(i + 1, G), ⟨by omega, fun _ => hlt, fun j hj => ?_⟩, by dsimp only; omega, rfl, ?_⟩
      · by_cases hj' : j + 1 < i
        · exact hall j hj'
        · obtain rfl : j = i - 1 := by dsimp only at hj; omega
          rw [Nat.sub_add_cancel h1]; simpa using hy
      · simp (maxSteps := 3000000) only [go_sem, ↓bothG_tt, ↓bothG_tf, ↓bothG_ft, ↓bothG_ff, ↓reduceIte, ↓reduceDIte, reduceCtorEq, Nat.reduceAdd, Nat.reduceSub, Nat.reduceLeDiff, Nat.reduceLT, Nat.reduceEqDiff, Nat.reduceBEq, Nat.reduceMul, Int.reduceToNat, Int.reduceEq, Int.reduceLT, Int.reduceLE] <;> try simp only [bothG_t, bothG_f, decide_eq_true_eq, decide_eq_false_iff_not, Bool.not_eq_true', Bool.not_eq_false', Int.ofNat_lt, Int.ofNat_le]
        rw [wrapi (by omega)]; simp
  · refine ⟨?_, G, rfl⟩
    refine rb (Eq.symm <| allN_true fun j hj => hall j ?_)
    have : ¬ i < l.length := by simpa using hge
    omega
theorem ordered_salt (l : List (SaltT).den) (g : Nat) (ca : List SV) (p : (SaltT).den → (SaltT).den → Bool) (H : List SObj) (hl : l.length ≤ 1125899906842624)
    (hp : Fits2 Tryz.prog g ca (t := SaltT) l p H) :
    PCH Tryz.prog 131 [.isl (SaltT) l, .fn g [] ca] (rB (ord p l)) H := by
  refine pch_drop rfl ?_
  refine vc_fi fi131 (run_sound mixed 600 _ ?_)
  simp (maxSteps := 3000000) only [ir131, go_sem, ↓bothG_tt, ↓bothG_tf, ↓bothG_ft, ↓bothG_ff, ↓reduceIte, ↓reduceDIte, reduceCtorEq, Nat.reduceAdd, Nat.reduceSub, Nat.reduceLeDiff, Nat.reduceLT, Nat.reduceEqDiff, Nat.reduceBEq, Nat.reduceMul, Int.reduceToNat, Int.reduceEq, Int.reduceLT, Int.reduceLE] <;> try simp only [bothG_t, bothG_f, decide_eq_true_eq, decide_eq_false_iff_not, Bool.not_eq_true', Bool.not_eq_false', Int.ofNat_lt, Int.ofNat_le]
  refine si_loopX (ι := Nat × List SObj) (fun x => [(5, rI x.1)]) (fun x => H ++ x.2) (fun x => l.length - x.1) (fun x => 1 ≤ x.1 ∧ (l ≠ [] → x.1 ≤ l.length) ∧ ∀ j, j + 1 < x.1 → p (l.getD j (SaltT).dflt) (l.getD (j + 1) (SaltT).dflt) = true) (1, []) ⟨Nat.le_refl 1, fun h => List.length_pos_iff.2 h, fun j hj => absurd hj (by dsimp only; omega)⟩ (by simp) ?_ ?_
  · simp (maxSteps := 3000000) only [go_sem, ↓bothG_tt, ↓bothG_tf, ↓bothG_ft, ↓bothG_ff, ↓reduceIte, ↓reduceDIte, reduceCtorEq, Nat.reduceAdd, Nat.reduceSub, Nat.reduceLeDiff, Nat.reduceLT, Nat.reduceEqDiff, Nat.reduceBEq, Nat.reduceMul, Int.reduceToNat, Int.reduceEq, Int.reduceLT, Int.reduceLE] <;> try simp only [bothG_t, bothG_f, decide_eq_true_eq, decide_eq_false_iff_not, Bool.not_eq_true', Bool.not_eq_false', Int.ofNat_lt, Int.ofNat_le]
    rfl
  rintro ⟨i, G⟩ ⟨h1, hi, hall⟩
  dsimp only at h1 hi hall
  refine run_sound mixed 600 _ ?_
  simp (maxSteps := 3000000) only [go_sem, ↓bothG_tt, ↓bothG_tf, ↓bothG_ft, ↓bothG_ff, ↓reduceIte, ↓reduceDIte, reduceCtorEq, Nat.reduceAdd, Nat.reduceSub, Nat.reduceLeDiff, Nat.reduceLT, Nat.reduceEqDiff, Nat.reduceBEq, Nat.reduceMul, Int.reduceToNat, Int.reduceEq, Int.reduceLT, Int.reduceLE] <;> try simp only [bothG_t, bothG_f, decide_eq_true_eq, decide_eq_false_iff_not, Bool.not_eq_true', Bool.not_eq_false', Int.ofNat_lt, Int.ofNat_le]
  refine ⟨fun hlt => ?_, fun hge => ?_⟩
  · have hlt : i < l.length := by simpa using hlt
    have e1 : IntKind.i64.wrap ((i : Int) - 1) = ((i - 1 : Nat) : Int) := by rw [wrapi (by omega)]; omega
    rw [e1]
    simp (maxSteps := 3000000) only [go_sem, ↓bothG_tt, ↓bothG_tf, ↓bothG_ft, ↓bothG_ff, ↓reduceIte, ↓reduceDIte, reduceCtorEq, Nat.reduceAdd, Nat.reduceSub, Nat.reduceLeDiff, Nat.reduceLT, Nat.reduceEqDiff, Nat.reduceBEq, Nat.reduceMul, Int.reduceToNat, Int.reduceEq, Int.reduceLT, Int.reduceLE] <;> try simp only [bothG_t, bothG_f, decide_eq_true_eq, decide_eq_false_iff_not, Bool.not_eq_true', Bool.not_eq_false', Int.ofNat_lt, Int.ofNat_le]
    refine ⟨⟨by omega, by omega⟩, ⟨by omega, hlt⟩, callR_at' (hp _ (getD_mem (d := (SaltT).dflt) (i := i - 1) (by omega)) _ (getD_mem (d := (SaltT).dflt) hlt) G) rfl rfl ?_⟩
    refine run_sound mixed 600 _ ?_
    simp (maxSteps := 3000000) only [go_sem, ↓bothG_tt, ↓bothG_tf, ↓bothG_ft, ↓bothG_ff, ↓reduceIte, ↓reduceDIte, reduceCtorEq, Nat.reduceAdd, Nat.reduceSub, Nat.reduceLeDiff, Nat.reduceLT, Nat.reduceEqDiff, Nat.reduceBEq, Nat.reduceMul, Int.reduceToNat, Int.reduceEq, Int.reduceLT, Int.reduceLE] <;> try simp only [bothG_t, bothG_f, decide_eq_true_eq, decide_eq_false_iff_not, Bool.not_eq_true', Bool.not_eq_false', Int.ofNat_lt, Int.ofNat_le]
    refine ⟨fun hn => ⟨?_, G, rfl⟩, fun hy => ?_⟩
    · exact rb (Eq.symm <| allN_false (i := i - 1) (by omega) (by rw [Nat.sub_add_cancel h1]; simpa using hn))
    · refine ⟨(i + 1, G), ⟨by omega, fun _ => hlt, fun j hj => ?_⟩, by dsimp only; omega, rfl, ?_⟩
      · by_cases hj' : j + 1 < i
        · exact hall j hj'
        · obtain rfl : j = i - 1 := by dsimp only at hj; omega
          rw [Nat.sub_add_cancel h1]; simpa using hy
      · simp (maxSteps := 3000000) only [go_sem, ↓bothG_tt, ↓bothG_tf, ↓bothG_ft, ↓bothG_ff, ↓reduceIte, ↓reduceDIte, reduceCtorEq, Nat.reduceAdd, Nat.reduceSub, Nat.reduceLeDiff, Nat.reduceLT, Nat.reduceEqDiff, Nat.reduceBEq, Nat.reduceMul, Int.reduceToNat, Int.reduceEq, Int.reduceLT, Int.reduceLE] <;> try simp only [bothG_t, bothG_f, decide_eq_true_eq, decide_eq_false_iff_not, Bool.not_eq_true', Bool.not_eq_false', Int.ofNat_lt, Int.ofNat_le]
        rw [wrapi (by omega)]; simp
  · refine ⟨?_, G, rfl⟩
    refine rb (Eq.symm <| allN_true fun j hj => hall j ?_)
    have : ¬ i < l.length := by simpa using hge
    omega
end Go.Proofs.YtddmkgibghohkaaGreatDoor
