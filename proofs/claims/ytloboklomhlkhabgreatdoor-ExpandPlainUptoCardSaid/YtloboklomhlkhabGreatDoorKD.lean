/- An abstract machine that the kernel runs, and the proof that what it comes to the program's calls come to: part D. -/
import Derived.Test.YtloboklomhlkhabGreatDoorKC
import Derived.Conc.MuLone
import Derived.Orders
import Derived.Laws.Externs
import Derived.Lib.MakeNoZero
import Derived.Lib.Bytealg
import Derived.Scope
import Derived.LaidLaws
import Derived.Lib.LaidTab
set_option linter.unusedVariables false
set_option linter.unusedSimpArgs false
/- Kev: temporaries; operations in the text's order. -/
namespace Go.Kev
open Go.RowKit
variable {c : Ctx} {P : Program} {lb : Nat}
/-- The machine's places stand for an activation's temporaries. -/
structure EnvR (e : Emb) (n : Nat) (env : Env) (a : Act) : Prop where
  size : a.tmps.size = n
  defers : a.defers = []
  at_ : ∀ t, a.tmps.getD t undef = rho e ((O.t (toP t)).ev env) ∧ ok e ((O.t (toP t)).ev env)
theorem EnvR.le {e e' : Emb} {n : Nat} {env : Env} {a : Act} (h : EnvR e n env a) (k : e.le e') : EnvR e' n env a :=
  ⟨h.size, h.defers, fun t => ⟨(h.at_ t).1.trans (rho_le k _ (h.at_ t).2).2.symm, (rho_le k _ (h.at_ t).2).1⟩⟩
theorem EnvR.ops {e : Emb} {n nG : Nat} {env : Env} {a : Act} (h : EnvR e n env a) (hg : ∀ g, g < nG → e.D g ∧ e.f g = g ∧ e.b g = 0) (xs : Array Operand) : Ops nG e env a xs := by
  intro x _ y hy
  cases x with
  | tmp t => cases hy; exact h.at_ t
  | const v =>
    simp only [compO, Option.map_eq_some_iff] at hy
    obtain ⟨w, hw, rfl⟩ := hy
    have := valA_spec hw e
    exact ⟨this.1.symm, this.2⟩
  | global g =>
    have hc : compO nG (.global g) = if g < nG then some (O.c (.ptr g 0)) else none := rfl
    rw [hc] at hy
    split at hy
    · rename_i hlt
      cases hy
      obtain ⟨h1, h2, h3⟩ := hg g hlt
      refine ⟨?_, h1⟩
      show Value.pointer (some ⟨g, 0, none⟩) = Value.pointer (some ⟨e.f g, e.b g + 0, none⟩)
      rw [h2, h3]
    · cases hy
  | func f =>
    cases hy
    exact ⟨rfl, trivial, trivial⟩
theorem force_eq {β : Type} (v : V) (k : V → β) : v.force k = k v := by
  cases v with
  | int kd n => cases n with
    | ofNat n => cases n <;> rfl
    | negSucc n => cases n <;> rfl
  | bool b => cases b <;> rfl
  | _ => rfl
theorem ev_t (env : Env) (p : Kev.P) : (O.t p).ev env = (env.getP p).getD (.tup []) := by
  show Option.rec (motive := fun _ => V) (V.tup []) (fun v => v) (T.getP env p) = _
  cases T.getP env p <;> rfl
theorem putK_some {d : Kev.P} {env : Env} {v : V} {k : Env → R} {r : Env × S} (h : putK d env v k = some r) : ∃ env', k env' = some r ∧ ∀ q, (O.t q).ev env' = if q = d then v else (O.t q).ev env := by
  unfold putK at h
  rw [force_eq] at h
  obtain ⟨t', hk, hg⟩ := T.setP_spec v d env
  refine ⟨t', (hk k).symm.trans h, fun q => ?_⟩
  rw [ev_t, ev_t, hg]
  by_cases hq : q = d
  · rw [if_pos hq, if_pos hq]; rfl
  · rw [if_neg hq, if_neg hq]
theorem EnvR.put {e : Emb} {n : Nat} {env env' : Env} {a : Act} (h : EnvR e n env a) {d : Nat} (hd : d < n) {v : V} (hv : ok e v) (he : ∀ q, (O.t q).ev env' = if q = toP d then v else (O.t q).ev env) :
    EnvR e n env' (a.put (some d) (rho e v)) := by
  refine ⟨by simp [Act.put, h.size], h.defers, fun t => ?_⟩
  rw [he]
  have hs := h.size
  by_cases ht : t = d
  · subst ht
    rw [if_pos rfl]
    refine ⟨?_, hv⟩
    simp [Act.put, hs, hd]
  · rw [if_neg (fun x => ht (toP_inj x))]
    refine ⟨?_, (h.at_ t).2⟩
    rw [← (h.at_ t).1]
    simp [Act.put, Array.getElem?_setIfInBounds, Ne.symm ht]
theorem EnvR.none {e : Emb} {n : Nat} {env : Env} {a : Act} (h : EnvR e n env a) (v : Value) : EnvR e n env (a.put none v) := h
end Go.Kev
/- Kev: one operation of a region. -/
namespace Go.Kev
open Go.RowKit
variable {c : Ctx} {P : Program} {lb n : Nat} {ops : Array Oper}
/-- A compiled operation fits the region's. -/
def FitsO (c : Ctx) (P : Program) (n : Nat) (ops : Array Oper) (o : Oper) : AOper → Prop
  | .p d a => ∃ t, o.dst = some t ∧ toP t = d ∧ t < n ∧ o.guard = none ∧ Sound c P o (op a)
  | .n a => o.dst = none ∧ o.guard = none ∧ Sound c P o (op a)
  | .g d a tp b => ∃ t j tj, o.dst = some t ∧ toP t = d ∧ t < n ∧ o.guard = some (j, b) ∧ (ops[j]?).bind (·.dst) = some tj ∧ toP tj = tp ∧ tj < n ∧ Sound c P o (op a)
  | .gn a tp b => ∃ j tj, o.dst = none ∧ o.guard = some (j, b) ∧ (ops[j]?).bind (·.dst) = some tj ∧ toP tj = tp ∧ tj < n ∧ Sound c P o (op a)
/-- what it is for the world to do it -/
def regAct (P : Program) (n : Nat) (ops : Array Oper) (o : Oper) (env env' : Env) : Act1 := fun e w Q =>
  ∀ (a : Act) (next : Act → World → Prop) (Q0 : Exit → Act → World → Prop), EnvR e n env a →
    (∀ e' w' a', Q e' w' → e.le e' → EnvR e' n env' a' → next a' w') →
    if Region.wanted o (yielded ops a.tmps) then o.wp P a w next Q0 else next (a.put o.dst undef) w
theorem yield_spec {e : Emb} {env : Env} {a : Act} (h : EnvR e n env a) {j tj : Nat} (hj : (ops[j]?).bind (·.dst) = some tj) (ht : tj < n) (b : Bool) :
    (yielded ops a.tmps j = some b ↔ (O.t (toP tj)).ev env = .bool b) := by
  have h1 := (h.at_ tj).1
  have hlt : tj < a.tmps.size := by rw [h.size]; exact ht
  unfold yielded
  rw [hj]
  have h2 : (some tj).bind (a.tmps[·]?) = some (rho e ((O.t (toP tj)).ev env)) := by
    rw [← h1]; simp [hlt]
  rw [h2]
  cases hv : (O.t (toP tj)).ev env <;> simp [rho]
theorem act_put {o : Oper} {env env' : Env} {v : V} {s s' : S} {l : List Nat} {t : Nat} (L : Loc c lb s s' l (opAct P c.nG o env v)) (ht : o.dst = some t) (hn : t < n)
    (he : ∀ q, (O.t q).ev env' = if q = toP t then v else (O.t q).ev env)
    (hw : ∀ e a, EnvR e n env a → Region.wanted o (yielded ops a.tmps) = true) : Loc c lb s s' l (regAct P n ops o env env') :=
  L.weak fun e w Q hle hR hact a next Q0 hE hk => by
    rw [if_pos (hw e a hE)]
    exact hact a next Q0 (hE.ops hR.glob _) fun e' w' q le okv => hk e' w' _ q le (by rw [ht]; exact (hE.le le).put hn okv he)
theorem act_none {o : Oper} {env : Env} {v : V} {s s' : S} {l : List Nat} (L : Loc c lb s s' l (opAct P c.nG o env v)) (ht : o.dst = none)
    (hw : ∀ e a, EnvR e n env a → Region.wanted o (yielded ops a.tmps) = true) : Loc c lb s s' l (regAct P n ops o env env) :=
  L.weak fun e w Q hle hR hact a next Q0 hE hk => by
    rw [if_pos (hw e a hE)]
    exact hact a next Q0 (hE.ops hR.glob _) fun e' w' q le okv => hk e' w' _ q le (by rw [ht]; exact hE.le le)
theorem act_skip {o : Oper} {env env' : Env} {s : S} {t : Nat} (ht : o.dst = some t) (hn : t < n)
    (he : ∀ q, (O.t q).ev env' = if q = toP t then .tup [] else (O.t q).ev env)
    (hw : ∀ e a, EnvR e n env a → Region.wanted o (yielded ops a.tmps) = false) : Loc c lb s s [] (regAct P n ops o env env') :=
  Loc.pure fun e w Q q a next Q0 hE hk => by
    rw [if_neg (by rw [hw e a hE]; exact Bool.false_ne_true)]
    exact hk e w _ q (.refl e) (by rw [ht]; exact hE.put (v := .tup []) hn trivial he)
theorem act_skipn {o : Oper} {env : Env} {s : S} (ht : o.dst = none)
    (hw : ∀ e a, EnvR e n env a → Region.wanted o (yielded ops a.tmps) = false) : Loc c lb s s [] (regAct P n ops o env env) :=
  Loc.pure fun e w Q q a next Q0 hE hk => by
    rw [if_neg (by rw [hw e a hE]; exact Bool.false_ne_true)]
    exact hk e w _ q (.refl e) (by rw [ht]; exact hE)
theorem onBool_cases {β : Type} {x : V} {f : Bool → Option β} {g : Option β} {r : β} (h : x.onBool f g = some r) : (∃ b, x = .bool b ∧ f b = some r) ∨ ((∀ b, x ≠ .bool b) ∧ g = some r) := by
  cases x <;> first | exact .inl ⟨_, rfl, h⟩ | exact .inr ⟨(fun _ e => by cases e), h⟩
theorem oper_step {o : Oper} {q : AOper} (hF : FitsO c P n ops o q) {call : Call} {env : Env} {s : S} {k : Env → S → R} {r : Env × S} (hc : CallOk c P lb call) (hl : lb ≤ s.nx) (hf : Fresh s)
    (h : q.run call lb env s k = some r) : ∃ env' s' l, k env' s' = some r ∧ Loc c lb s s' l (regAct P n ops o env env') := by
  have free : o.guard = none → ∀ e a, EnvR e n env a → Region.wanted o (yielded ops a.tmps) = true := fun hg e a _ => by
    unfold Region.wanted; rw [hg]
  have held : ∀ {j tj : Nat} {b : Bool}, o.guard = some (j, b) → (ops[j]?).bind (·.dst) = some tj → tj < n → ∀ (e : Emb) (a : Act), EnvR e n env a → (Region.wanted o (yielded ops a.tmps) = true ↔ (O.t (toP tj)).ev env = .bool b) := by
    intro j tj b hg hj ht e a hE
    unfold Region.wanted
    rw [hg]
    show (yielded ops a.tmps j == some b) = true ↔ _
    rw [beq_iff_eq]
    exact yield_spec hE hj ht b
  cases q with
  | p d a =>
    obtain ⟨t, h1, rfl, h3, h4, hS⟩ := hF
    obtain ⟨v, s', l, hk, L⟩ := hS call lb env s _ r hc hl hf h
    obtain ⟨env', hk, he⟩ := putK_some hk
    exact ⟨env', s', l, hk, act_put L h1 h3 he (free h4)⟩
  | n a =>
    obtain ⟨h1, h4, hS⟩ := hF
    obtain ⟨v, s', l, hk, L⟩ := hS call lb env s _ r hc hl hf h
    exact ⟨env, s', l, hk, act_none L h1 (free h4)⟩
  | g d a tp b =>
    obtain ⟨t, j, tj, h1, rfl, h3, h4, h5, rfl, h7, hS⟩ := hF
    have skip : (∀ e a, EnvR e n env a → Region.wanted o (yielded ops a.tmps) = false) → putK (toP t) env (.tup []) (fun env => k env s) = some r → ∃ env' s' l, k env' s' = some r ∧ Loc c lb s s' l (regAct P n ops o env env') := fun hw hk => by
      obtain ⟨env', hk, he⟩ := putK_some hk
      exact ⟨env', s, [], hk, act_skip h1 h3 he hw⟩
    rcases onBool_cases h with ⟨cc, hb, h⟩ | ⟨hb, h⟩
    · rcases cnd_cases h with ⟨hcb, h⟩ | ⟨hcb, h⟩
      · obtain ⟨v, s', l, hk, L⟩ := hS call lb env s _ r hc hl hf h
        obtain ⟨env', hk, he⟩ := putK_some hk
        exact ⟨env', s', l, hk, act_put L h1 h3 he fun e a hE => (held h4 h5 h7 e a hE).2 (by rw [hb]; cases b <;> cases cc <;> first | rfl | cases hcb)⟩
      · refine skip (fun e a hE => ?_) h
        have := held h4 h5 h7 e a hE
        rw [hb] at this
        rw [Bool.eq_false_iff]
        intro x
        have := this.1 x
        cases b <;> cases cc <;> first | (cases this; done) | cases hcb
    · refine skip (fun e a hE => ?_) h
      rw [Bool.eq_false_iff]
      exact fun x => hb b ((held h4 h5 h7 e a hE).1 x)
  | gn a tp b =>
    obtain ⟨j, tj, h1, h4, h5, rfl, h7, hS⟩ := hF
    have skip : (∀ e a, EnvR e n env a → Region.wanted o (yielded ops a.tmps) = false) → k env s = some r → ∃ env' s' l, k env' s' = some r ∧ Loc c lb s s' l (regAct P n ops o env env') := fun hw hk =>
      ⟨env, s, [], hk, act_skipn h1 hw⟩
    rcases onBool_cases h with ⟨cc, hb, h⟩ | ⟨hb, h⟩
    · rcases cnd_cases h with ⟨hcb, h⟩ | ⟨hcb, h⟩
      · obtain ⟨v, s', l, hk, L⟩ := hS call lb env s _ r hc hl hf h
        exact ⟨env, s', l, hk, act_none L h1 fun e a hE => (held h4 h5 h7 e a hE).2 (by rw [hb]; cases b <;> cases cc <;> first | rfl | cases hcb)⟩
      · refine skip (fun e a hE => ?_) h
        have := held h4 h5 h7 e a hE
        rw [hb] at this
        rw [Bool.eq_false_iff]
        intro x
        have := this.1 x
        cases b <;> cases cc <;> first | (cases this; done) | cases hcb
    · refine skip (fun e a hE => ?_) h
      rw [Bool.eq_false_iff]
      exact fun x => hb b ((held h4 h5 h7 e a hE).1 x)
end Go.Kev
/- Kev: a region in the text's order. -/
namespace Go.Kev
open Go.RowKit
variable {c : Ctx} {P : Program} {lb n : Nat} {os : Array Oper}
def regsAct (P : Program) (n : Nat) (os : Array Oper) (is : List Nat) (env env' : Env) : Act1 := fun e w Q =>
  ∀ (a : Act) (Q0 : Exit → Act → World → Prop), EnvR e n env a → (∀ e' w' a', Q e' w' → e.le e' → EnvR e' n env' a' → Q0 .normal a' w') → wpOps P os Q0 is a w
theorem regAct_mono {o : Oper} {env env' : Env} : (regAct P n os o env env').Mono := fun e w Q Q' hQ h a next Q0 hE hk => h a next Q0 hE fun e' w' a' q => hk e' w' a' (hQ _ _ q)
theorem regsAct_mono {is : List Nat} {env env' : Env} : (regsAct P n os is env env').Mono := fun e w Q Q' hQ h a Q0 hE hk => h a Q0 hE fun e' w' a' q => hk e' w' a' (hQ _ _ q)
inductive Fits (c : Ctx) (P : Program) (n : Nat) (os : Array Oper) : List Nat → List AOper → Prop
  | nil : Fits c P n os [] []
  | cons {i : Nat} {is : List Nat} {o : Oper} {q : AOper} {qs : List AOper} : os[i]? = some o → FitsO c P n os o q → Fits c P n os is qs → Fits c P n os (i :: is) (q :: qs)
theorem ops_run {call : Call} (hc : CallOk c P lb call) {is : List Nat} {qs : List AOper} (hF : Fits c P n os is qs) : ∀ {env : Env} {s : S} {r : Env × S}, lb ≤ s.nx → Fresh s → ops qs call lb env s = some r →
    ∃ l, Loc c lb s r.2 l (regsAct P n os is env r.1) := by
  induction hF with
  | nil =>
    intro env s r hl hf h
    cases h
    exact ⟨[], Loc.pure fun e w Q q a Q0 hE hk => hk e w a q (.refl e) hE⟩
  | cons hi hq _ ih =>
    intro env s r hl hf h
    obtain ⟨env1, s1, l1, h1, L1⟩ := oper_step hq hc hl hf h
    obtain ⟨l2, L2⟩ := ih (Nat.le_trans hl L1.tr.nx) (L1.tr.fresh hf) h1
    refine ⟨_, (L1.then regAct_mono regsAct_mono L2).weak fun e w Q hle hR hact a Q0 hE hk => ?_⟩
    have := hact a (wpOps P os Q0 _) Q0 hE fun e1 w1 a1 hq le1 hE1 => hq a1 Q0 hE1 fun e' w' a' q' le' hE' => hk e' w' a' q' (hle _ _ q') hE'
    simp only [wpOps, hi]
    split
    · rename_i hw
      rw [if_pos hw] at this
      exact .inl this
    · rename_i hw
      rw [if_neg hw] at this
      exact this
end Go.Kev
/- Kev: control. -/
namespace Go.Kev
open Go.RowKit
variable {c : Ctx} {P : Program} {lb n : Nat}
def Rounds (P : Program) (x : Code) (Q : Exit → Act → World → Prop) : Nat → Act → World → Prop
  | 0 => fun _ _ => False
  | k + 1 => fun a w => x.wp P (Exit.then (Rounds P x Q k) Q) a w
theorem then_mono {K K' : Act → World → Prop} {Q : Exit → Act → World → Prop} (h : ∀ a w, K a w → K' a w) : ∀ e a w, Exit.then K Q e a w → Exit.then K' Q e a w := by
  intro e a w q
  cases e <;> first | exact h _ _ q | exact q
theorem least {p : Nat → Prop} (h : ∃ k, p k) : ∃ k, p k ∧ ∀ j, p j → k ≤ j := by
  obtain ⟨k, hk⟩ := h
  induction k using Nat.strongRecOn with
  | ind k ih =>
    by_cases hj : ∃ j, j < k ∧ p j
    · obtain ⟨j, hlt, hp⟩ := hj
      exact ih j hlt hp
    · exact ⟨k, hk, fun j hp => Nat.le_of_not_lt fun hlt => hj ⟨j, hlt, hp⟩⟩
open Classical in
theorem wp_rounds {x : Code} {Q : Exit → Act → World → Prop} {k : Nat} {a : Act} {w : World} (h : Rounds P x Q k a w) : (Code.loop x).wp P Q a w := by
  let I : Act → World → Prop := fun a w => ∃ k, Rounds P x Q k a w
  let μ : Act → World → Nat := fun a w => if h : I a w then (least h).choose else 0
  refine wp_loop I μ ⟨k, h⟩ fun a w hI => ?_
  have hμ : μ a w = (least hI).choose := dif_pos hI
  have hs := (least hI).choose_spec.1
  rw [hμ]
  cases hk : (least hI).choose with
  | zero => rw [hk] at hs; exact hs.elim
  | succ m =>
    rw [hk] at hs
    refine wp_mono hs (then_mono fun a' w' hr => ⟨⟨m, hr⟩, ?_⟩)
    have hI' : I a' w' := ⟨m, hr⟩
    have hμ' : μ a' w' = (least hI').choose := dif_pos hI'
    rw [hμ']
    exact Nat.lt_succ_of_le ((least hI').choose_spec.2 m hr)
end Go.Kev
/- Kev: control, piece by piece. -/
namespace Go.Kev
open Go.RowKit
variable {c : Ctx} {P : Program} {n : Nat}
def exitOf : Out → Exit
  | .nrm => .normal
  | .ex id => .exit id
  | .ret => .ret
def codeAct (P : Program) (n : Nat) (x : Code) (env : Env) (out : Out) (env' : Env) : Act1 := fun e w Q =>
  ∀ (a : Act) (Q0 : Exit → Act → World → Prop), EnvR e n env a → (∀ e' w' a', Q e' w' → e.le e' → EnvR e' n env' a' → Q0 (exitOf out) a' w') → x.wp P Q0 a w
theorem codeAct_mono {x : Code} {env env' : Env} {out : Out} : (codeAct P n x env out env').Mono := fun e w Q Q' hQ h a Q0 hE hk => h a Q0 hE fun e' w' a' q => hk e' w' a' (hQ _ _ q)
/-- What the machine's code does, the code does. -/
def Good (c : Ctx) (P : Program) (n : Nat) (x : Code) (q : C) : Prop :=
  ∀ (call : Nat → Call) (f lb : Nat) (env : Env) (s : S) (r : Out × Env × S), (∀ lb, CallOk c P lb (call lb)) → lb ≤ s.nx → Fresh s → q call f lb env s = some r →
    ∃ l, Loc c lb s r.2.2 l (codeAct P n x env r.1 r.2.1)
theorem good_skip : Good c P n .skip (sem .skip) := by
  intro call f lb env s r hc hl hf h
  cases h
  exact ⟨[], Loc.pure fun e w Q q a Q0 hE hk => wp_skip (hk e w a q (.refl e) hE)⟩
theorem good_label (l : Nat) : Good c P n (.label l) (sem .skip) := by
  intro call f lb env s r hc hl hf h
  cases h
  exact ⟨[], Loc.pure fun e w Q q a Q0 hE hk => wp_label (hk e w a q (.refl e) hE)⟩
theorem evK_some {r : Option (Out × Env × S)} {k : Env → S → Option (Out × Env × S)} {p : Out × Env × S} (h : evK r k = some p) :
    (∃ env s, r = some (.nrm, env, s) ∧ k env s = some p) ∨ (r = some p ∧ p.1 ≠ .nrm) := by
  cases r with
  | none => cases h
  | some q =>
    obtain ⟨o, env, s⟩ := q
    cases o with
    | nrm => exact .inl ⟨env, s, rfl, h⟩
    | ex id => cases h; exact .inr ⟨rfl, fun x => by cases x⟩
    | ret => cases h; exact .inr ⟨rfl, fun x => by cases x⟩
theorem gcopy_spec {old : T Ob} : ∀ (fuel : Nat) (work : List Nat) (new : T Ob), (∀ id o, new.get id = some o → old.get id = some o) →
    ∃ h, (∀ {β : Type} (k : T Ob → β), gcopy old fuel work new k = k h) ∧ ∀ id o, h.get id = some o → old.get id = some o
  | 0, work, new, hn => ⟨new, fun k => rfl, hn⟩
  | f + 1, [], new, hn => ⟨new, fun k => rfl, hn⟩
  | f + 1, id :: rest, new, hn => by
    have step : ∀ {β : Type} (k : T Ob → β), gcopy old (f + 1) (id :: rest) new k = Option.rec (gcopy old f rest new k) (fun o => Option.rec (new.setK o id fun new => gcopy old f (o.ids rest) new k) (fun _ => gcopy old f rest new k) (new.get id)) (old.get id) := fun k => rfl
    cases ho : old.get id with
    | none =>
      obtain ⟨h, h1, h2⟩ := gcopy_spec f rest new hn
      exact ⟨h, fun k => by rw [step, ho]; exact h1 k, h2⟩
    | some o =>
      cases hw : new.get id with
      | some p =>
        obtain ⟨h, h1, h2⟩ := gcopy_spec f rest new hn
        exact ⟨h, fun k => by rw [step, ho, hw]; exact h1 k, h2⟩
      | none =>
        obtain ⟨new', n1, n2⟩ := T.setK_spec o new id
        obtain ⟨h, h1, h2⟩ := gcopy_spec f (o.ids rest) new' fun j p hj => by
          rw [n2] at hj
          by_cases e : j = id
          · rw [if_pos e] at hj; cases hj; rw [e]; exact ho
          · rw [if_neg e] at hj; exact hn j p hj
        exact ⟨h, fun k => by rw [step, ho, hw]; exact (n1 _).trans (h1 k), h2⟩
theorem gcSf_spec (fuel : Nat) (env : Env) (s : S) : ∃ hh : T Ob, (∀ {β : Type} (k : S → β), gcSf fuel 0 env s k = k ⟨hh, s.nx, s.log⟩) ∧ ∀ id o, hh.get id = some o → s.heap.get id = some o := by
  obtain ⟨hh, h1, h2⟩ := gcopy_spec (old := s.heap) fuel (rootsT env (0 :: 1 :: 2 :: 3 :: 4 :: 5 :: 6 :: 7 :: 8 :: 9 :: 10 :: 11 :: 12 :: 13 :: 14 :: 15 :: [])) .l fun id o ho => by rw [T.get_l] at ho; cases ho
  exact ⟨hh, fun k => h1 _, h2⟩
theorem gcS_spec (env : Env) (s : S) : ∃ hh : T Ob, (∀ {β : Type} (k : S → β), gcS 0 env s k = k ⟨hh, s.nx, s.log⟩) ∧ ∀ id o, hh.get id = some o → s.heap.get id = some o := gcSf_spec 100000 env s
theorem Loc.forget {s s1 : S} {l : List Nat} {act : Act1} {hh : T Ob} (hm : act.Mono) (hf : Fresh s) (L : Loc c 0 s s1 l act) (sub : ∀ id o, hh.get id = some o → s1.heap.get id = some o) :
    Loc c 0 s ⟨hh, s1.nx, s1.log⟩ l act := by
  have sub' : ∀ id o, hp ⟨hh, s1.nx, s1.log⟩ id = some o → hp s1 id = some o := sub
  have hf1 := L.tr.fresh hf
  have hf2 : ∀ id, s1.nx ≤ id → hp ⟨hh, s1.nx, s1.log⟩ id = none := fun id hid => by
    cases ho : hp ⟨hh, s1.nx, s1.log⟩ id with
    | none => rfl
    | some o => have := sub' id o ho; rw [hf1 id hid] at this; cases this
  refine ⟨⟨L.tr.log, L.tr.nx, fun id hw => ?_, fun _ => hf2, L.tr.lt⟩, fun fr e H w hH hR hn => ?_⟩
  · have hw : ¬ Wr 0 s1.nx l id := hw
    have hge : ¬ (0 ≤ id ∧ id < s1.nx) := fun x => hw (.inl x)
    have hge : s1.nx ≤ id := by omega
    rw [hf2 id hge]
    exact (hf1 id hge).symm.trans (L.tr.keep id hw)
  · refine hm _ _ _ _ ?_ (L.run fr e H w hH hR hn)
    rintro e' w' ⟨k1, k2, k3⟩
    refine ⟨k1, k2, ?_⟩
    have hsub : ∀ id o, mix 0 s1.nx l (hp ⟨hh, s1.nx, s1.log⟩) H id = some o → mix 0 s1.nx l (hp s1) H id = some o := by
      intro id o ho
      unfold mix at ho ⊢
      split at ho
      · rw [if_pos ‹_›]; exact sub' id o ho
      · rw [if_neg ‹_›]; exact ho
    exact ⟨fun id o ho => k3.ob id o (hsub id o ho), fun i j a b hi hj => k3.inj i j a b (hsub _ _ hi) (hsub _ _ hj), fun id o ho => k3.new id o (hsub id o ho), k3.below, k3.glob⟩
/-- Behind a code, what is not reached any more may be forgotten. -/
theorem good_gc {x : Code} {q : AC} (hx : Good c P n x (sem q)) : Good c P n x (sem (.seq q .gc)) := by
  intro call f lb env s r hc hl hf h
  rcases evK_some (show evK (sem q call f lb env s) (fun env s => gcS lb env s fun s => some (.nrm, env, s)) = some r from h) with ⟨env1, s1, h1, h2⟩ | ⟨h1, hn⟩
  · obtain ⟨l1, L1⟩ := hx call f lb env s _ hc hl hf h1
    cases hb : Nat.beq lb 0 with
    | false =>
      have e : (gcS lb env1 s1 fun s => some (Out.nrm, env1, s)) = some (.nrm, env1, s1) := by unfold gcS gcSf; rw [hb]; rfl
      rw [e] at h2
      cases h2
      exact ⟨l1, L1⟩
    | true =>
      have h0 : lb = 0 := by rw [Nat.beq_eq] at hb; exact hb
      subst h0
      obtain ⟨hh, k1, k2⟩ := gcS_spec env1 s1
      have e : (gcS 0 env1 s1 fun s => some (Out.nrm, env1, s)) = some (.nrm, env1, ⟨hh, s1.nx, s1.log⟩) := k1 _
      rw [e] at h2
      cases h2
      exact ⟨l1, L1.forget codeAct_mono hf k2⟩
  · exact hx call f lb env s _ hc hl hf h1
theorem good_exit (id : Nat) : Good c P n (.exit id) (sem (.exit id)) := by
  intro call f lb env s r hc hl hf h
  cases h
  exact ⟨[], Loc.pure fun e w Q q a Q0 hE hk => wp_exit (hk e w a q (.refl e) hE)⟩
theorem good_ret : Good c P n .ret (sem .ret) := by
  intro call f lb env s r hc hl hf h
  cases h
  exact ⟨[], Loc.pure fun e w Q q a Q0 hE hk => wp_ret (hk e w a q (.refl e) hE)⟩
theorem good_stop (x : Code) : Good c P n x (sem .stop) := by
  intro call f lb env s r hc hl hf h
  cases h
theorem good_reg {id : Nat} {os : Array Oper} {qs : List AOper} (h : Fits c P n os (List.range os.size) qs) : Good c P n (.region id os false) (sem (.reg qs)) := by
  intro call f lb env s r hc hl hf hr
  have hr : outR .nrm (ops qs (call lb) lb env s) = some r := hr
  cases ho : ops qs (call lb) lb env s with
  | none => rw [ho] at hr; cases hr
  | some p =>
    rw [ho] at hr
    cases hr
    obtain ⟨l, L⟩ := ops_run (hc lb) h hl hf ho
    exact ⟨l, L.weak fun e w Q hle hR hact a Q0 hE hk => wp_region (hact a Q0 hE hk)⟩
theorem then_out {K : Act → World → Prop} {Q : Exit → Act → World → Prop} {o : Out} (h : o ≠ .nrm) {a : Act} {w : World} (q : Q (exitOf o) a w) : Exit.then K Q (exitOf o) a w := by
  cases o <;> first | exact (h rfl).elim | exact q
theorem good_seq {x y : Code} {p q : AC} (hx : Good c P n x (sem p)) (hy : Good c P n y (sem q)) : Good c P n (.seq x y) (sem (.seq p q)) := by
  intro call f lb env s r hc hl hf h
  rcases evK_some (show evK (sem p call f lb env s) (fun env s => sem q call f lb env s) = some r from h) with ⟨env1, s1, h1, h2⟩ | ⟨h1, hn⟩
  · obtain ⟨l1, L1⟩ := hx call f lb env s _ hc hl hf h1
    obtain ⟨l2, L2⟩ := hy call f lb env1 s1 _ hc (Nat.le_trans hl L1.tr.nx) (L1.tr.fresh hf) h2
    exact ⟨_, (L1.then codeAct_mono codeAct_mono L2).weak fun e w Q hle hR hact a Q0 hE hk =>
      wp_seq (hact a _ hE fun e1 w1 a1 hq le1 hE1 => hq a1 Q0 hE1 fun e' w' a' q' le' hE' => hk e' w' a' q' (hle _ _ q') hE')⟩
  · obtain ⟨l1, L1⟩ := hx call f lb env s _ hc hl hf h1
    exact ⟨_, L1.weak fun e w Q hle hR hact a Q0 hE hk => wp_seq (hact a _ hE fun e1 w1 a1 hq le1 hE1 => then_out hn (hk e1 w1 a1 hq le1 hE1))⟩
end Go.Kev
/- Kev: conditions, blocks, loops. -/
namespace Go.Kev
open Go.RowKit
variable {c : Ctx} {P : Program} {n : Nat}
theorem good_cond {t : Operand} {z : O} {x y : Code} {p q : AC} (ht : compO c.nG t = some z) (hx : Good c P n x (sem p)) (hy : Good c P n y (sem q)) : Good c P n (.cond t x y) (sem (.cond z p q)) := by
  intro call f lb env s r hc hl hf h
  obtain ⟨b, hb, h⟩ := onBool_some (show (z.ev env).onBool (fun t => Bool.rec (sem q call f lb env s) (sem p call f lb env s) t) none = some r from h)
  have ev : ∀ {e : Emb} {w : World} {a : Act}, Rel c e (fun _ => none) w → EnvR e n env a → a.eval t = .bool b := fun hR hE => by
    have := (hE.ops hR.glob #[t] t (by simp) z ht).1
    rw [this, hb]; rfl
  cases b with
  | true =>
    obtain ⟨l, L⟩ := hx call f lb env s r hc hl hf h
    exact ⟨l, L.weak fun e w Q hle hR hact a Q0 hE hk => wp_cond_true (ev hR hE) (hact a Q0 hE hk)⟩
  | false =>
    obtain ⟨l, L⟩ := hy call f lb env s r hc hl hf h
    exact ⟨l, L.weak fun e w Q hle hR hact a Q0 hE hk => wp_cond_false (ev hR hE) (hact a Q0 hE hk)⟩
theorem good_block {id : Nat} {x : Code} {p : AC} (hx : Good c P n x (sem p)) : Good c P n (.block id x) (sem (.block id p)) := by
  intro call f lb env s r hc hl hf h
  have h : (fun r => Option.rec none (fun p => Out.rec r (fun j => Bool.rec r (some (.nrm, p.2)) (Nat.beq j id)) r p.1) r : Option (Out × Env × S) → Option (Out × Env × S)) (sem p call f lb env s) = some r := h
  cases hp : sem p call f lb env s with
  | none => rw [hp] at h; cases h
  | some u =>
    rw [hp] at h
    obtain ⟨l, L⟩ := hx call f lb env s u hc hl hf hp
    obtain ⟨o, env1, s1⟩ := u
    cases o with
    | nrm =>
      cases h
      exact ⟨l, L.weak fun e w Q hle hR hact a Q0 hE hk => wp_block (hact a _ hE fun e' w' a' q' le' hE' => hk e' w' a' q' le' hE')⟩
    | ret =>
      cases h
      exact ⟨l, L.weak fun e w Q hle hR hact a Q0 hE hk => wp_block (hact a _ hE fun e' w' a' q' le' hE' => hk e' w' a' q' le' hE')⟩
    | ex j =>
      cases hj : Nat.beq j id with
      | true =>
        have h : (Bool.rec (some (Out.ex j, env1, s1)) (some (Out.nrm, env1, s1)) (Nat.beq j id) : Option (Out × Env × S)) = some r := h
        rw [hj] at h
        cases h
        refine ⟨l, L.weak fun e w Q hle hR hact a Q0 hE hk => wp_block (hact a _ hE fun e' w' a' q' le' hE' => ?_)⟩
        show if j = id then _ else _
        rw [if_pos (Nat.eq_of_beq_eq_true hj)]
        exact hk e' w' a' q' le' hE'
      | false =>
        have h : (Bool.rec (some (Out.ex j, env1, s1)) (some (Out.nrm, env1, s1)) (Nat.beq j id) : Option (Out × Env × S)) = some r := h
        rw [hj] at h
        cases h
        refine ⟨l, L.weak fun e w Q hle hR hact a Q0 hE hk => wp_block (hact a _ hE fun e' w' a' q' le' hE' => ?_)⟩
        show if j = id then _ else _
        rw [if_neg (fun x => by subst x; rw [Nat.beq_refl] at hj; cases hj)]
        exact hk e' w' a' q' le' hE'
def roundsAct (P : Program) (n : Nat) (x : Code) (k : Nat) (env : Env) (out : Out) (env' : Env) : Act1 := fun e w Q =>
  ∀ (a : Act) (Q0 : Exit → Act → World → Prop), EnvR e n env a → (∀ e' w' a', Q e' w' → e.le e' → EnvR e' n env' a' → Q0 (exitOf out) a' w') → Rounds P x Q0 k a w
theorem roundsAct_mono {x : Code} {k : Nat} {env env' : Env} {out : Out} : (roundsAct P n x k env out env').Mono := fun e w Q Q' hQ h a Q0 hE hk => h a Q0 hE fun e' w' a' q => hk e' w' a' (hQ _ _ q)
theorem good_loop {x : Code} {p : AC} (hx : Good c P n x (sem p)) : Good c P n (.loop x) (sem (.loop p)) := by
  intro call f lb env s r hc hl hf h
  have h : cLoop (sem p) call f lb env s = some r := h
  have key : ∀ (m : Nat) (env : Env) (s : S), lb ≤ s.nx → Fresh s → cLoop (sem p) call m lb env s = some r →
      ∃ l k, Loc c lb s r.2.2 l (roundsAct P n x k env r.1 r.2.1) := by
    intro m
    induction m with
    | zero => intro env s _ _ h; cases h
    | succ m ih =>
      intro env s hl hf h
      rcases evK_some (show evK (sem p call m lb env s) (fun env s => cLoop (sem p) call m lb env s) = some r from h) with ⟨env1, s1, h1, h2⟩ | ⟨h1, hn⟩
      · obtain ⟨l1, L1⟩ := hx call m lb env s _ hc hl hf h1
        obtain ⟨l2, k, L2⟩ := ih env1 s1 (Nat.le_trans hl L1.tr.nx) (L1.tr.fresh hf) h2
        exact ⟨_, k + 1, (L1.then codeAct_mono roundsAct_mono L2).weak fun e w Q hle hR hact a Q0 hE hk =>
          hact a _ hE fun e1 w1 a1 hq le1 hE1 => hq a1 Q0 hE1 fun e' w' a' q' le' hE' => hk e' w' a' q' (hle _ _ q') hE'⟩
      · obtain ⟨l1, L1⟩ := hx call m lb env s _ hc hl hf h1
        exact ⟨_, 1, L1.weak fun e w Q hle hR hact a Q0 hE hk => hact a _ hE fun e1 w1 a1 hq le1 hE1 => then_out hn (hk e1 w1 a1 hq le1 hE1)⟩
  obtain ⟨l, k, L⟩ := key f env s hl hf h
  exact ⟨l, L.weak fun e w Q hle hR hact a Q0 hE hk => wp_rounds (hact a Q0 hE hk)⟩
end Go.Kev
/- Kev: calls. -/
namespace Go.Kev
open Go.RowKit
variable {c : Ctx} {P : Program} {n : Nat}
/-- what a call gives, as the region takes it -/
theorem callee_wp {o : Oper} {a : Act} {w : World} {f : Nat} {args : Array Value} {next : Act → World → Prop} {Q0 : Exit → Act → World → Prop}
    (hx : (execOp a.eval o).run P w = (callFunc f args).run P w) (h : Callee P f args w fun u w' => next (a.put o.dst u) w') : o.wp P a w next Q0 := by
  unfold Oper.wp
  rw [hx]
  unfold Callee at h
  split at h
  · rename_i hr; rw [hr]; exact h
  · rename_i hr
    rw [hr]
    refine Calls.mono h fun e w he => ?_
    cases e <;> first | exact he | exact he.elim
  · exact h.elim
theorem s_callv {x : Operand} {y : O} {xs : Array Operand} {ys : List O} {ats : Array TypeId} {o : Oper} (ho : o.op = .call ⟨.value x, xs, ats⟩) (hx : compO c.nG x = some y) (hxs : OsR c.nG xs.toList ys) :
    Sound c P o (opCallv y ys) := by
  intro call lb env s k r hc hl hf h
  obtain ⟨f, first, cap, hb, h⟩ := onFn_some h
  obtain ⟨v, s', l, hk, L⟩ := hc f _ s k r hl hf h
  refine ⟨v, s', l, hk, L.weak fun e w Q hle hR hact a next Q0 hops hnext => ?_⟩
  have hv := hops x (by simp [ho, Op.operands, Call.operands]) y hx
  have hys := hxs.spec (e := e) (a := a) fun z hz q hq => hops z (by simp [ho, Op.operands, Call.operands]; exact .inr (by simpa using hz)) q hq
  rw [hb] at hv
  rw [appL_app, appL_app] at hact
  refine callee_wp (f := f) (args := (rhos e (first ++ (evs env ys ++ cap))).toArray) ?_ ?_
  · have hargs : xs.map a.eval = (rhos e (evs env ys)).toArray := by
      rw [← hys.1]
      apply Array.toList_inj.1
      simp
    simp only [execOp, ho, resolve, hv.1, rho, Deferred.ofValue, Sem.run_bind, Sem.run_pure, Result.andThen_ok, invoke, hargs]
    congr 1
    simp [rhos_map]
  · have := hact (by
      have h1 : oks e first ∧ oks e cap := hv.2
      exact oks_append.2 ⟨h1.1, oks_append.2 ⟨hys.2, h1.2⟩⟩)
    refine this.mono fun u w' he => ?_
    obtain ⟨e', rfl, h1, h2⟩ := he
    exact hnext e' w' h2 (hle _ _ h2) h1
theorem s_call {f : Nat} {xs : Array Operand} {ys : List O} {ats : Array TypeId} {o : Oper} (ho : o.op = .call ⟨.value (.func f), xs, ats⟩) (hxs : OsR c.nG xs.toList ys) : Sound c P o (opCall f ys) := by
  have h : opCall f ys = opCallv (.c (.fn f [] [])) ys := by
    funext call lb env s k
    show call f (evs env ys) s k = call f (appL [] (appL (evs env ys) [])) s k
    rw [appL_app, appL_app, List.append_nil, List.nil_append]
  rw [h]
  exact s_callv ho rfl hxs
end Go.Kev
/- Kev: a function's beginning. -/
namespace Go.Kev
open Go.RowKit
variable {c : Ctx} {P : Program} {n : Nat}
theorem argsT_spec : ∀ (ps : List Kev.P) (args : List V) (env : Env), ps.Nodup → ps.length = args.length →
    ∀ q, (O.t q).ev (argsT ps args env) = match (ps.zip args).find? (fun x => decide (x.1 = q)) with | some x => x.2 | none => (O.t q).ev env
  | [], [], env, _, _, q => rfl
  | p :: ps, v :: args, env, hn, hl, q => by
    obtain ⟨t', hk, hg⟩ := T.setP_spec v p env
    have h1 : argsT (p :: ps) (v :: args) env = argsT ps args t' := by
      show argsT ps args (T.setP v p env fun e => e) = _
      rw [hk]
    rw [h1, argsT_spec ps args t' (List.nodup_cons.1 hn).2 (by simpa using hl) q]
    have hq : (O.t q).ev t' = if q = p then v else (O.t q).ev env := by
      rw [ev_t, ev_t, hg]
      by_cases h : q = p
      · rw [if_pos h, if_pos h]; rfl
      · rw [if_neg h, if_neg h]
    simp only [List.zip_cons_cons, List.find?_cons]
    by_cases h : p = q
    · subst h
      have : (ps.zip args).find? (fun x => decide (x.1 = p)) = none := by
        rw [List.find?_eq_none]
        intro x hx
        have := (List.of_mem_zip hx).1
        simp only [decide_eq_true_eq]
        intro hxp
        rw [hxp] at this
        exact (List.nodup_cons.1 hn).1 this
      rw [this, hq]
      simp
    · simp only [h, decide_false]
      rw [hq, if_neg (fun x => h x.symm)]
theorem zip_find : ∀ (args : List V) (m t : Nat), (((List.range' m args.length).map toP).zip args).find? (fun x => decide (x.1 = toP t)) = if m ≤ t then (args[t - m]?).map (fun v => (toP t, v)) else none
  | [], m, t => by simp
  | v :: args, m, t => by
    rw [List.length_cons, List.range'_succ, List.map_cons, List.zip_cons_cons, List.find?_cons]
    by_cases h : m = t
    · subst h; simp
    · have : toP m ≠ toP t := fun x => h (toP_inj x)
      simp only [this, decide_false]
      rw [zip_find args (m + 1) t]
      by_cases h2 : m ≤ t
      · rw [if_pos h2, if_pos (by omega), show t - m = (t - (m + 1)) + 1 by omega, List.getElem?_cons_succ]
      · rw [if_neg h2, if_neg (by omega)]
theorem range_nodup (m : Nat) : ((List.range' 0 m).map toP).Nodup := by
  rw [List.nodup_iff_pairwise_ne, List.pairwise_map]
  exact (List.nodup_range' (step := 1)).imp fun h x => h (toP_inj x)
theorem EnvR.begin {e : Emb} {args : List V} {ps : List Kev.P} (hp : ps = (List.range' 0 args.length).map toP) (hn : args.length ≤ n) (ho : oks e args) :
    EnvR e n (argsT ps args .l) { tmps := (rhos e args).toArray ++ Array.replicate (n - (rhos e args).toArray.size) undef, defers := [] } := by
  subst hp
  have hsz : (rhos e args).toArray.size = args.length := by rw [List.size_toArray, rhos_len]
  refine ⟨by rw [Array.size_append, Array.size_replicate, hsz]; omega, rfl, fun t => ?_⟩
  rw [argsT_spec _ _ _ (range_nodup _) (by simp), zip_find, if_pos (Nat.zero_le _), Nat.sub_zero]
  cases ha : args[t]? with
  | none =>
    have hlen := List.getElem?_eq_none_iff.1 ha
    have : (O.t (toP t)).ev (T.l : Env) = .tup [] := by rw [ev_t, T.getP_l]; rfl
    simp only [Option.map_none, this]
    refine ⟨?_, trivial⟩
    show ((rhos e args).toArray ++ Array.replicate (n - (rhos e args).toArray.size) undef).getD t undef = undef
    rw [Array.getD_eq_getD_getElem?, Array.getElem?_append_right (by rw [hsz]; exact hlen), Array.getElem?_replicate]
    split <;> rfl
  | some v =>
    have hlt := (List.getElem?_eq_some_iff.1 ha).1
    simp only [Option.map_some]
    have hv : (rhos e args)[t]? = some (rho e v) := by rw [rhos_get, ha]; rfl
    refine ⟨?_, ?_⟩
    · show ((rhos e args).toArray ++ Array.replicate (n - (rhos e args).toArray.size) undef).getD t undef = rho e v
      rw [Array.getD_eq_getD_getElem?, Array.getElem?_append_left (by rw [hsz]; exact hlt), List.getElem?_toArray, hv]
      rfl
    · exact (oks_iff e args).1 ho v (List.mem_of_getElem? ha)
end Go.Kev
/- Kev: results. -/
namespace Go.Kev
open Go.RowKit
variable {c : Ctx} {P : Program} {n lb : Nat}
/-- what stands for a result, as the world reads it -/
def resAct (P : Program) (n : Nat) (env : Env) (m : Array Value → Sem Value) (v : V) : Act1 := fun e w Q =>
  ∀ a, EnvR e n env a → (m a.tmps).run P w = .ok (rho e v) w ∧ ok e v ∧ Q e w
def resOf : ResultVar → Array Value → Sem Value
  | .tmp t, tmps => pure (tmps.getD t undef)
  | .cell a t, tmps => do loadVar t (← asAddr (tmps.getD a undef))
theorem res_tmp {s : S} {env : Env} (t : Nat) : Loc c lb s s [] (resAct P n env (resOf (.tmp t)) ((O.t (toP t)).ev env)) :=
  Loc.pure fun e w Q q a hE => by
    have := hE.at_ t
    refine ⟨?_, this.2, q⟩
    show (pure (a.tmps.getD t undef) : Sem Value).run P w = _
    rw [this.1]; rfl
theorem res_cell1 {s : S} {env : Env} {t : Nat} {ty : TypeId} (ht : aggB P ty = some false) {call : Call} {k : K} {r : Env × S} (h : opLoad1 (.t (toP t)) call lb env s k = some r) :
    ∃ v s' l, k v s' = some r ∧ Loc c lb s s' l (resAct P n env (resOf (.cell t ty)) v) := by
  obtain ⟨id, off, hb, h⟩ := onPtr_some h
  obtain ⟨row, hrow, h⟩ := onRow_some h
  obtain ⟨v, l', hl', h⟩ := headK_some h
  rw [dropL_eq] at hl'
  have hi : row.cells[off]? = some v := by
    have := congrArg (·[0]?) hl'
    simpa [List.getElem?_drop] using this
  obtain ⟨l, hL⟩ := Loc.read (c := c) (lb := lb) (act := resAct P n env (resOf (.cell t ty)) v) hrow fun e w Q hob hd q a hE => by
    have hv := hE.at_ t
    rw [hb] at hv
    obtain ⟨g1, g2, _⟩ := RowR.cell hob hi
    refine ⟨?_, g2, q⟩
    simp only [resOf, hv.1, rho]
    simp [asAddr, loadVar, run_isAgg ht, g1]
  exact ⟨_, _, _, h, hL⟩
theorem res_celln {s : S} {env : Env} {t m : Nat} {ty : TypeId} (ht : aggB P ty = some true) (hn : sizeB P ty = some m) {call : Call} {k : K} {r : Env × S} (h : opLoadn m (.t (toP t)) call lb env s k = some r) :
    ∃ v s' l, k v s' = some r ∧ Loc c lb s s' l (resAct P n env (resOf (.cell t ty)) v) := by
  obtain ⟨id, off, hb, h⟩ := onPtr_some h
  obtain ⟨row, hrow, h⟩ := onRow_some h
  obtain ⟨hlen, h⟩ := takeK_some h
  rw [dropL_eq] at hlen h
  obtain ⟨l, hL⟩ := Loc.read (c := c) (lb := lb) (act := resAct P n env (resOf (.cell t ty)) (.agg ((row.cells.drop off).take m))) hrow fun e w Q hob hd q a hE => by
    have hv := hE.at_ t
    rw [hb] at hv
    obtain ⟨g1, g2⟩ := RowR.load (P := P) hob hlen
    refine ⟨?_, g2, q⟩
    simp only [resOf, hv.1, rho]
    simp [asAddr, loadVar, run_isAgg ht, run_sizeB hn, g1]
  exact ⟨_, _, _, h, hL⟩
end Go.Kev
/- Kev: the list of results. -/
namespace Go.Kev
open Go.RowKit
variable {c : Ctx} {P : Program} {n lb : Nat}
def RVF (P : Program) : ResultVar → RV → Prop
  | .tmp t, .t p => p = toP t
  | .cell a ty, .cell p m => p = toP a ∧ ((aggB P ty = some false ∧ m = 0) ∨ (aggB P ty = some true ∧ m ≠ 0 ∧ sizeB P ty = some m))
  | _, _ => False
theorem res_one {x : ResultVar} {q : RV} (h : RVF P x q) {s : S} {env : Env} {k : K} {r : Env × S} (hr : q.run lb env s k = some r) :
    ∃ v s' l, k v s' = some r ∧ Loc c lb s s' l (resAct P n env (resOf x) v) := by
  cases x with
  | tmp t =>
    cases q with
    | t p => cases h; exact ⟨_, s, [], hr, res_tmp t⟩
    | cell p m => exact h.elim
  | cell a ty =>
    cases q with
    | t p => exact h.elim
    | cell p m =>
      obtain ⟨rfl, ⟨h1, rfl⟩ | ⟨h1, h2, h3⟩⟩ := h
      · exact res_cell1 (call := fun _ _ _ _ => none) h1 hr
      · cases m with
        | zero => exact (h2 rfl).elim
        | succ m => exact res_celln (call := fun _ _ _ _ => none) h1 h3 hr
inductive RVFs (P : Program) : List ResultVar → List RV → Prop
  | nil : RVFs P [] []
  | cons {x : ResultVar} {q : RV} {xs : List ResultVar} {qs : List RV} : RVF P x q → RVFs P xs qs → RVFs P (x :: xs) (q :: qs)
def resActs (P : Program) (n : Nat) (env : Env) (xs : List ResultVar) (vs : List V) : Act1 := fun e w Q =>
  ∀ a, EnvR e n env a → (xs.mapM (fun x => resOf x a.tmps)).run P w = .ok (rhos e vs) w ∧ oks e vs ∧ Q e w
theorem resAct_mono {env : Env} {m : Array Value → Sem Value} {v : V} : (resAct P n env m v).Mono := fun e w Q Q' hQ h a hE => ⟨(h a hE).1, (h a hE).2.1, hQ _ _ (h a hE).2.2⟩
theorem resActs_mono {env : Env} {xs : List ResultVar} {vs : List V} : (resActs P n env xs vs).Mono := fun e w Q Q' hQ h a hE => ⟨(h a hE).1, (h a hE).2.1, hQ _ _ (h a hE).2.2⟩
theorem res_list {env : Env} {r : Env × S} : ∀ {xs : List ResultVar} {qs : List RV}, RVFs P xs qs → ∀ {acc : List V} {s : S} {k : List V → S → R}, RV.runs qs acc lb env s k = some r →
    ∃ vs s' l, vs.length = qs.length ∧ k (acc.reverse ++ vs) s' = some r ∧ Loc c lb s s' l (resActs P n env xs vs) := by
  intro xs qs h
  induction h with
  | nil =>
    intro acc s k hr
    exact ⟨[], s, [], rfl, by rw [List.append_nil]; exact hr, Loc.pure fun e w Q q a hE => ⟨rfl, trivial, q⟩⟩
  | cons h1 h2 ih =>
    intro acc s k hr
    obtain ⟨v, s1, l1, g1, L1⟩ := res_one (c := c) (n := n) h1 hr
    obtain ⟨vs, s2, l2, g0, g2, L2⟩ := ih g1
    refine ⟨v :: vs, s2, _, by simp [g0], by simpa using g2, (L1.then resAct_mono resActs_mono L2).weak fun e w Q hle hR hact a hE => ?_⟩
    obtain ⟨a1, a2, a3⟩ := hact a hE
    obtain ⟨b1, b2, b3⟩ := a3 a hE
    refine ⟨?_, ⟨a2, b2⟩, b3⟩
    rw [List.mapM_cons, Sem.run_bind, a1, Result.andThen_ok, Sem.run_bind, b1, Result.andThen_ok]
    rfl
end Go.Kev
/- Kev: a function's results. -/
namespace Go.Kev
open Go.RowKit
variable {c : Ctx} {P : Program} {n lb : Nat}
theorem results_eq (fn : Func) (tmps : Array Value) : Go.results fn tmps = (do let vs ← fn.results.mapM (fun x => resOf x tmps); pure (if h : vs.size = 1 then vs[0] else .tuple vs)) := by
  unfold Go.results
  congr 1
  · congr 1
    funext x
    cases x <;> rfl
theorem run_mapM_array {xs : Array ResultVar} {f : ResultVar → Sem Value} {l : List Value} {w : World} (h : (xs.toList.mapM f).run P w = .ok l w) : (xs.mapM f).run P w = .ok l.toArray w := by
  rw [Array.mapM_eq_mapM_toList]
  show (List.mapM f xs.toList >>= fun l => pure l.toArray).run P w = _
  rw [Sem.run_bind, h, Result.andThen_ok]
  rfl
/-- a function's results, as the world gives them -/
def endAct (P : Program) (n : Nat) (env : Env) (fn : Func) (v : V) : Act1 := fun e w Q =>
  ∀ a, EnvR e n env a → (Go.results fn a.tmps).run P w = .ok (rho e v) w ∧ ok e v ∧ Q e w
theorem end_of {fn : Func} {env : Env} {vs : List V} {v : V} {s s' : S} {l : List Nat} (L : Loc c lb s s' l (resActs P n env fn.results.toList vs)) (h : (vs.length = 1 ∧ vs = [v]) ∨ (vs.length ≠ 1 ∧ v = .tup vs)) :
    Loc c lb s s' l (endAct P n env fn v) :=
  L.weak fun e w Q hle hR hact a hE => by
    obtain ⟨a1, a2, a3⟩ := hact a hE
    have hm := run_mapM_array a1
    rw [results_eq, Sem.run_bind, hm, Result.andThen_ok]
    rcases h with ⟨h1, rfl⟩ | ⟨h1, rfl⟩
    · refine ⟨?_, a2.1, a3⟩
      rfl
    · refine ⟨?_, a2, a3⟩
      have hs : ¬ ((rhos e vs).toArray.size = 1) := by rw [List.size_toArray, rhos_len]; exact h1
      rw [dif_neg hs]
      rfl
theorem res_all {fn : Func} {qs : List RV} (h : RVFs P fn.results.toList qs) {env : Env} {s : S} {k : K} {r : Env × S} (hr : results qs lb env s k = some r) :
    ∃ v s' l, k v s' = some r ∧ Loc c lb s s' l (endAct P n env fn v) := by
  cases qs with
  | nil =>
    generalize hxs : fn.results.toList = xs at h
    cases h
    refine ⟨.tup [], s, [], hr, end_of (vs := []) ?_ (.inr ⟨by simp, rfl⟩)⟩
    rw [hxs]
    exact Loc.pure fun e w Q q a hE => ⟨rfl, trivial, q⟩
  | cons q qs =>
    cases qs with
    | nil =>
      generalize hxs : fn.results.toList = xs at h
      cases h with
      | cons h1 h2 =>
        cases h2
        obtain ⟨v, s', l, g, L⟩ := res_one (c := c) (n := n) h1 (show q.run lb env s k = some r from hr)
        refine ⟨v, s', l, g, end_of (vs := [v]) ?_ (.inl ⟨rfl, rfl⟩)⟩
        rw [hxs]
        refine L.weak fun e w Q hle hR hact a hE => ?_
        obtain ⟨a1, a2, a3⟩ := hact a hE
        refine ⟨?_, ⟨a2, trivial⟩, a3⟩
        rw [List.mapM_cons, Sem.run_bind, a1, Result.andThen_ok]
        rfl
    | cons q2 qs =>
      obtain ⟨vs, s', l, g0, g, L⟩ := res_list (c := c) (n := n) h (show RV.runs (q :: q2 :: qs) [] lb env s (fun l s => k (.tup l) s) = some r from hr)
      refine ⟨.tup vs, s', l, g, end_of L (.inr ⟨?_, rfl⟩)⟩
      rw [g0]; simp
end Go.Kev
/- Kev: functions. -/
namespace Go.Kev
open Go.RowKit
variable {c : Ctx} {P : Program}
/-- A compiled function fits the program's. -/
def FnOk (c : Ctx) (P : Program) (f : Nat) (x : AF) : Prop :=
  ∀ (ih : Nat → Call) (fu lb : Nat) (args : List V) (s : S) (k : K) (r : Env × S), (∀ lb, CallOk c P lb (ih lb)) → lb ≤ s.nx → Fresh s → x.run ih fu lb args s k = some r →
    ∃ v s' l, k v s' = some r ∧ Loc c lb s s' l (callAct P f args v)
theorem callN_ok {fns : T AF} (h : ∀ f x, fns.get f = some x → FnOk c P f x) : ∀ fuel lb, CallOk c P lb (callN fns fuel lb) := by
  intro fuel
  induction fuel with
  | zero => intro lb f args s k r hl hf hr; cases hr
  | succ m ih =>
    intro lb f args s k r hl hf hr
    have hr : Option.rec none (fun x => AF.run x (callN fns m) m lb args s k) (fns.get f) = some r := hr
    cases hg : fns.get f with
    | none => rw [hg] at hr; cases hr
    | some x =>
      rw [hg] at hr
      exact h f x hg (callN fns m) m lb args s k r ih hl hf hr
theorem fn_code {f : Nat} {fn : Func} {x : Code} {ps : List Kev.P} {q : AC} {res : List RV} (hf : P.funcs[f]? = some fn) (hname : (fn.name == "runtime.NumGoroutine") = false) (hb : fn.body = some x)
    (hp : ps = (List.range' 0 ps.length).map toP) (hn : ps.length ≤ fn.ntmps) (hx : Good c P fn.ntmps x (sem q)) (hr : RVFs P fn.results.toList res) : FnOk c P f (.code ps q res) := by
  intro ih fu lb args s k r hc hl hfr h
  obtain ⟨hlen, h⟩ := cnd_none (show cnd (Nat.beq (lenL ps) (lenL args)) ((fun env => Option.rec none (fun p => Out.rec (results res lb p.2.1 p.2.2 k) (fun _ => none) (results res lb p.2.1 p.2.2 k) p.1) (sem q ih fu lb env s)) (argsT ps args .l)) none = some r from h)
  have hlen := Nat.eq_of_beq_eq_true hlen
  rw [lenL_eq, lenL_eq] at hlen
  have h : Option.rec none (fun p => Out.rec (results res lb p.2.1 p.2.2 k) (fun _ => none) (results res lb p.2.1 p.2.2 k) p.1) (sem q ih fu lb (argsT ps args .l) s) = some r := h
  cases hs : sem q ih fu lb (argsT ps args .l) s with
  | none => rw [hs] at h; cases h
  | some u =>
    rw [hs] at h
    obtain ⟨l1, L1⟩ := hx ih fu lb _ s u hc hl hfr hs
    have hk : (u.1 = .nrm ∨ u.1 = .ret) ∧ results res lb u.2.1 u.2.2 k = some r := by
      obtain ⟨o, env1, s1⟩ := u
      cases o with
      | nrm => exact ⟨.inl rfl, h⟩
      | ret => exact ⟨.inr rfl, h⟩
      | ex j => cases h
    obtain ⟨hout, h⟩ := hk
    obtain ⟨v, s', l2, hk, L2⟩ := res_all (c := c) (P := P) (n := fn.ntmps) hr h
    have hm : (endAct P fn.ntmps u.2.1 fn v).Mono := fun e w Q Q' hQ h a hE => ⟨(h a hE).1, (h a hE).2.1, hQ _ _ (h a hE).2.2⟩
    refine ⟨v, s', _, hk, (L1.then codeAct_mono hm L2).weak fun e w Q hle hR hact ho => ?_⟩
    unfold Callee
    rw [Go.MuLone.run_callFunc_enter hf hname hb]
    show Calls P f (rhos e args).toArray w _
    refine calls_of_wp hf hb ?_
    have hE := EnvR.begin (e := e) (n := fn.ntmps) (ps := ps) (args := args) (by rw [← hlen]; exact hp) (by rw [← hlen]; exact hn) ho
    refine hact _ (bodyPost P fn _) hE fun e1 w1 a1 hq le1 hE1 => ?_
    have key : a1.defers = [] ∧ ∃ v', (Go.results fn a1.tmps).run P w1 = .ok v' w1 ∧ ∃ e', v' = rho e' v ∧ ok e' v ∧ Q e' w1 := by
      obtain ⟨g1, g2, g3⟩ := hq a1 hE1
      exact ⟨hE1.defers, _, g1, _, rfl, g2, g3⟩
    rcases hout with ho | ho
    · rw [ho]; exact key
    · rw [ho]; exact key
end Go.Kev
/- Kev: operations in any order: one of them. -/
namespace Go.Kev
open Go.RowKit
variable {c : Ctx} {P : Program} {n : Nat} {os : Array Oper}
/-- What an operation looks at stands for what it is. -/
def LookR (e : Emb) (os : Array Oper) (o : Oper) (env : Env) (a : Act) : Prop :=
  ∀ t ∈ o.looksAt os, a.tmps.getD t undef = rho e ((O.t (toP t)).ev env) ∧ ok e ((O.t (toP t)).ev env)
theorem LookR.ops {e : Emb} {o : Oper} {env : Env} {a : Act} {nG : Nat} (h : LookR e os o env a) (hg : ∀ g, g < nG → e.D g ∧ e.f g = g ∧ e.b g = 0) : Ops nG e env a o.op.operands := by
  intro x hx y hy
  cases x with
  | tmp t =>
    cases hy
    exact h t (List.mem_append_left _ (List.mem_filterMap.2 ⟨.tmp t, by simpa using hx, rfl⟩))
  | const v =>
    simp only [compO, Option.map_eq_some_iff] at hy
    obtain ⟨w, hw, rfl⟩ := hy
    have := valA_spec hw e
    exact ⟨this.1.symm, this.2⟩
  | global g =>
    have hc : compO nG (.global g) = if g < nG then some (O.c (.ptr g 0)) else none := rfl
    rw [hc] at hy
    split at hy
    · rename_i hlt
      cases hy
      obtain ⟨h1, h2, h3⟩ := hg g hlt
      refine ⟨?_, h1⟩
      show Value.pointer (some ⟨g, 0, none⟩) = Value.pointer (some ⟨e.f g, e.b g + 0, none⟩)
      rw [h2, h3]
    · cases hy
  | func f =>
    cases hy
    exact ⟨rfl, trivial, trivial⟩
theorem LookR.yield {e : Emb} {o : Oper} {env : Env} {a : Act} (h : LookR e os o env a) (hs : a.tmps.size = n) {j tj : Nat} {b : Bool} (hg : o.guard = some (j, b)) (hj : (os[j]?).bind (·.dst) = some tj) (ht : tj < n) :
    (Region.wanted o (yielded os a.tmps) = true ↔ (O.t (toP tj)).ev env = .bool b) := by
  have h1 := (h tj (List.mem_append_right _ (by rw [hg]; simp [hj]))).1
  have hlt : tj < a.tmps.size := by rw [hs]; exact ht
  unfold Region.wanted
  rw [hg]
  show (yielded os a.tmps j == some b) = true ↔ _
  rw [beq_iff_eq]
  unfold yielded
  rw [hj]
  have h2 : (some tj).bind (a.tmps[·]?) = some (rho e ((O.t (toP tj)).ev env)) := by
    rw [← h1]; simp [hlt]
  rw [h2]
  cases hv : (O.t (toP tj)).ev env <;> simp [rho]
def dAct (P : Program) (n : Nat) (os : Array Oper) (o : Oper) (env : Env) (v : V) : Act1 := fun e w Q =>
  ∀ (a : Act) (next : Act → World → Prop) (Q0 : Exit → Act → World → Prop), LookR e os o env a → a.tmps.size = n →
    (∀ e' w', Q e' w' → e.le e' → ok e' v → next (a.put o.dst (rho e' v)) w') →
    if Region.wanted o (yielded os a.tmps) then o.wp P a w next Q0 else next (a.put o.dst undef) w
theorem dact_do {lb : Nat} {o : Oper} {env : Env} {v : V} {s s' : S} {l : List Nat} (L : Loc c lb s s' l (opAct P c.nG o env v))
    (hw : ∀ e a, LookR e os o env a → a.tmps.size = n → Region.wanted o (yielded os a.tmps) = true) : Loc c lb s s' l (dAct P n os o env v) :=
  L.weak fun e w Q hle hR hact a next Q0 hE hs hk => by
    rw [if_pos (hw e a hE hs)]
    exact hact a next Q0 (hE.ops hR.glob) hk
theorem dact_skip {lb : Nat} {o : Oper} {env : Env} {s : S}
    (hw : ∀ e a, LookR e os o env a → a.tmps.size = n → Region.wanted o (yielded os a.tmps) = false) : Loc c lb s s [] (dAct P n os o env (.tup [])) :=
  Loc.pure fun e w Q q a next Q0 hE hs hk => by
    rw [if_neg (by rw [hw e a hE hs]; exact Bool.false_ne_true)]
    exact hk e w q (.refl e) trivial
/-- a place that is set, or none -/
def Puts (d : Option Nat) (v : V) (env env' : Env) : Prop := ∀ t, (O.t (toP t)).ev env' = if d = some t then v else (O.t (toP t)).ev env
theorem Puts.of {t : Nat} {v : V} {env env' : Env} (h : ∀ q, (O.t q).ev env' = if q = toP t then v else (O.t q).ev env) : Puts (some t) v env env' := by
  intro u
  rw [h]
  by_cases hu : t = u
  · subst hu; rw [if_pos rfl, if_pos rfl]
  · rw [if_neg (fun x => hu (toP_inj x).symm), if_neg (fun x => hu (by simpa using x))]
theorem Puts.none {v : V} {env : Env} : Puts none v env env := fun t => by rw [if_neg (by simp)]
theorem d_step {lb : Nat} {o : Oper} {q : AOper} (hF : FitsO c P n os o q) {call : Call} {env : Env} {s : S} {k : Env → S → R} {r : Env × S} (hc : CallOk c P lb call) (hl : lb ≤ s.nx) (hf : Fresh s)
    (h : q.run call lb env s k = some r) : ∃ v env' s' l, k env' s' = some r ∧ Puts o.dst v env env' ∧ Loc c lb s s' l (dAct P n os o env v) := by
  have free : o.guard = none → ∀ e a, LookR e os o env a → a.tmps.size = n → Region.wanted o (yielded os a.tmps) = true := fun hg e a _ _ => by
    unfold Region.wanted; rw [hg]
  have held : ∀ {j tj : Nat} {b : Bool}, o.guard = some (j, b) → (os[j]?).bind (·.dst) = some tj → tj < n → ∀ (e : Emb) (a : Act), LookR e os o env a → a.tmps.size = n → (Region.wanted o (yielded os a.tmps) = true ↔ (O.t (toP tj)).ev env = .bool b) :=
    fun hg hj ht e a hE hs => hE.yield hs hg hj ht
  cases q with
  | p d a =>
    obtain ⟨t, h1, rfl, h3, h4, hS⟩ := hF
    obtain ⟨v, s', l, hk, L⟩ := hS call lb env s _ r hc hl hf h
    obtain ⟨env', hk, he⟩ := putK_some hk
    exact ⟨v, env', s', l, hk, by rw [h1]; exact .of he, dact_do L (free h4)⟩
  | n a =>
    obtain ⟨h1, h4, hS⟩ := hF
    obtain ⟨v, s', l, hk, L⟩ := hS call lb env s _ r hc hl hf h
    exact ⟨v, env, s', l, hk, by rw [h1]; exact .none, dact_do L (free h4)⟩
  | g d a tp b =>
    obtain ⟨t, j, tj, h1, rfl, h3, h4, h5, rfl, h7, hS⟩ := hF
    have skip : (∀ e a, LookR e os o env a → a.tmps.size = n → Region.wanted o (yielded os a.tmps) = false) → putK (toP t) env (.tup []) (fun env => k env s) = some r → ∃ v env' s' l, k env' s' = some r ∧ Puts o.dst v env env' ∧ Loc c lb s s' l (dAct P n os o env v) := fun hw hk => by
      obtain ⟨env', hk, he⟩ := putK_some hk
      exact ⟨.tup [], env', s, [], hk, by rw [h1]; exact .of he, dact_skip hw⟩
    rcases onBool_cases h with ⟨cc, hb, h⟩ | ⟨hb, h⟩
    · rcases cnd_cases h with ⟨hcb, h⟩ | ⟨hcb, h⟩
      · obtain ⟨v, s', l, hk, L⟩ := hS call lb env s _ r hc hl hf h
        obtain ⟨env', hk, he⟩ := putK_some hk
        exact ⟨v, env', s', l, hk, by rw [h1]; exact .of he, dact_do L fun e a hE hs => (held h4 h5 h7 e a hE hs).2 (by rw [hb]; cases b <;> cases cc <;> first | rfl | cases hcb)⟩
      · refine skip (fun e a hE hs => ?_) h
        have := held h4 h5 h7 e a hE hs
        rw [hb] at this
        rw [Bool.eq_false_iff]
        intro x
        have := this.1 x
        cases b <;> cases cc <;> first | (cases this; done) | cases hcb
    · refine skip (fun e a hE hs => ?_) h
      rw [Bool.eq_false_iff]
      exact fun x => hb b ((held h4 h5 h7 e a hE hs).1 x)
  | gn a tp b =>
    obtain ⟨j, tj, h1, h4, h5, rfl, h7, hS⟩ := hF
    have skip : (∀ e a, LookR e os o env a → a.tmps.size = n → Region.wanted o (yielded os a.tmps) = false) → k env s = some r → ∃ v env' s' l, k env' s' = some r ∧ Puts o.dst v env env' ∧ Loc c lb s s' l (dAct P n os o env v) := fun hw hk =>
      ⟨.tup [], env, s, [], hk, by rw [h1]; exact .none, dact_skip hw⟩
    rcases onBool_cases h with ⟨cc, hb, h⟩ | ⟨hb, h⟩
    · rcases cnd_cases h with ⟨hcb, h⟩ | ⟨hcb, h⟩
      · obtain ⟨v, s', l, hk, L⟩ := hS call lb env s _ r hc hl hf h
        exact ⟨v, env, s', l, hk, by rw [h1]; exact .none, dact_do L fun e a hE hs => (held h4 h5 h7 e a hE hs).2 (by rw [hb]; cases b <;> cases cc <;> first | rfl | cases hcb)⟩
      · refine skip (fun e a hE hs => ?_) h
        have := held h4 h5 h7 e a hE hs
        rw [hb] at this
        rw [Bool.eq_false_iff]
        intro x
        have := this.1 x
        cases b <;> cases cc <;> first | (cases this; done) | cases hcb
    · refine skip (fun e a hE hs => ?_) h
      rw [Bool.eq_false_iff]
      exact fun x => hb b ((held h4 h5 h7 e a hE hs).1 x)
end Go.Kev
/- Kev: what the machine did, operation by operation. -/
namespace Go.Kev
open Go.RowKit
variable {c : Ctx} {P : Program} {n : Nat} {os : Array Oper}
/-- The states, places, logs and values of a drawn region, in the text's order. -/
structure DRun (c : Ctx) (P : Program) (n : Nat) (os : Array Oper) (ms : Nat → Nat) (i N : Nat) (st : Nat → S) (en : Nat → Env) (lg : Nat → List Nat) (vs : Nat → V) : Prop where
  loc : ∀ k o, i ≤ k → k < N → os[k]? = some o → Loc c (st k).nx (st k) { st (k + 1) with log := lg k } (lg k) (dAct P n os o (en k) (vs k))
  put : ∀ k o, i ≤ k → k < N → os[k]? = some o → Puts o.dst (vs k) (en k) (en (k + 1))
  chk : ∀ j k, i ≤ j → j < k → k < N → apartB (j, (st j).nx, (st (j + 1)).nx, lg j) (ms k) (lg k) = true
inductive FitsD (c : Ctx) (P : Program) (n : Nat) (os : Array Oper) : Nat → List (AOper × Nat) → Prop
  | nil {i : Nat} : os.size = i → FitsD c P n os i []
  | cons {i : Nat} {o : Oper} {q : AOper × Nat} {qs : List (AOper × Nat)} : os[i]? = some o → FitsO c P n os o q.1 → FitsD c P n os (i + 1) qs → FitsD c P n os i (q :: qs)
theorem FitsD.len : ∀ {i : Nat} {qs : List (AOper × Nat)}, FitsD c P n os i qs → os.size = i + qs.length
  | _, _, .nil h => h
  | _, _, .cons _ _ h => by have := h.len; simp only [List.length_cons]; omega
theorem dropBelow_app (lb : Nat) : ∀ (l out : List Nat), ∃ l', dropBelow lb l out = l' ++ out ∧ ∀ x, x ∈ l' ↔ x ∈ l ∧ x / 2 < lb
  | [], out => ⟨[], rfl, fun x => by simp⟩
  | y :: l, out => by
    obtain ⟨l', h1, h2⟩ := dropBelow_app lb l out
    have h : dropBelow lb (y :: l) out = Bool.rec (dropBelow lb l out) (y :: dropBelow lb l out) (Nat.blt (Nat.div y 2) lb) := rfl
    have hb : Nat.blt (Nat.div y 2) lb = decide (y / 2 < lb) := by
      show Nat.ble _ _ = _
      rw [Bool.eq_iff_iff, Nat.ble_eq, decide_eq_true_eq]
      rfl
    rw [h, hb]
    by_cases hy : y / 2 < lb
    · rw [decide_eq_true hy]
      refine ⟨y :: l', by show y :: dropBelow lb l out = _; rw [h1]; rfl, fun x => ?_⟩
      rw [List.mem_cons, h2, List.mem_cons]
      constructor
      · rintro (rfl | h)
        · exact ⟨.inl rfl, hy⟩
        · exact ⟨.inr h.1, h.2⟩
      · rintro ⟨rfl | h, h3⟩
        · exact .inl rfl
        · exact .inr ⟨h, h3⟩
    · rw [decide_eq_false hy]
      refine ⟨l', h1, fun x => ?_⟩
      rw [h2, List.mem_cons]
      constructor
      · rintro h
        exact ⟨.inr h.1, h.2⟩
      · rintro ⟨rfl | h, h3⟩
        · exact (hy h3).elim
        · exact ⟨h, h3⟩
def clean (s : S) : S := { s with log := [] }
theorem dops_run {call : Nat → Call} (hc : ∀ lb, CallOk c P lb (call lb)) (lb : Nat) : ∀ {qs : List (AOper × Nat)} {i : Nat} (_ : FitsD c P n os i qs) {done : List (Nat × Nat × Nat × List Nat)} {env : Env} {s : S} {r : Env × S}, Fresh s → dops qs call lb i done env s = some r →
    ∃ st en lg vs, st i = clean s ∧ en i = env ∧ clean r.2 = st (i + qs.length) ∧ r.1 = en (i + qs.length) ∧
      DRun c P n os (fun k => ((qs[k - i]?).map (·.2)).getD 0) i (i + qs.length) st en lg vs ∧
      (∀ k, i ≤ k → k < i + qs.length → ∀ e ∈ done, apartB e (((qs[k - i]?).map (·.2)).getD 0) (lg k) = true) ∧
      (∃ L, r.2.log = L ++ s.log ∧ ∀ x, x ∈ L ↔ ∃ k, i ≤ k ∧ k < i + qs.length ∧ x ∈ lg k ∧ x / 2 < lb) := by
  intro qs
  induction qs with
  | nil =>
    intro i hF done env s r hf h
    cases h
    exact ⟨fun _ => clean s, fun _ => env, fun _ => [], fun _ => .tup [], rfl, rfl, rfl, rfl, ⟨fun k o h1 h2 => by simp at h2; omega, fun k o h1 h2 => by simp at h2; omega, fun j k h1 h2 h3 => by simp at h3; omega⟩,
      fun k h1 h2 => by simp at h2; omega, [], rfl, fun x => ⟨fun h => (by cases h), fun ⟨k, h1, h2, _⟩ => by simp at h2; omega⟩⟩
  | cons q qs ih =>
    intro i hF done env s r hf h
    cases hF with
    | @cons _ o _ _ ho hq hrest =>
    have h : q.1.run (call s.nx) s.nx env ⟨s.heap, s.nx, []⟩ (fun env s' =>
      Bool.rec none (dops qs call lb (Nat.succ i) ((i, s.nx, s'.nx, s'.log) :: done) env ⟨s'.heap, s'.nx, dropBelow lb s'.log s.log⟩) (done.all fun e => apartB e q.2 s'.log)) = some r := h
    obtain ⟨v, env1, s1, l, hk, hput, L⟩ := d_step hq (s := ⟨s.heap, s.nx, []⟩) (hc s.nx) (Nat.le_refl _) hf h
    have hlog : s1.log = l := by rw [L.tr.log]; exact List.append_nil l
    cases hall : done.all fun e => apartB e q.2 s1.log with
    | false => rw [hall] at hk; cases hk
    | true =>
      rw [hall] at hk
      have hk : dops qs call lb (i + 1) ((i, s.nx, s1.nx, s1.log) :: done) env1 ⟨s1.heap, s1.nx, dropBelow lb s1.log s.log⟩ = some r := hk
      obtain ⟨st, en, lg, vs, g1, g2, g3, g4, g5, g6, Lg, g7, g8⟩ := ih hrest (s := ⟨s1.heap, s1.nx, dropBelow lb s1.log s.log⟩) (L.tr.fresh hf) hk
      have hlen : i + (q :: qs).length = i + 1 + qs.length := by simp only [List.length_cons]; omega
      have hms : ∀ k, i + 1 ≤ k → (((q :: qs)[k - i]?).map (·.2)).getD 0 = ((qs[k - (i + 1)]?).map (·.2)).getD 0 := by
        intro k hk
        rw [show k - i = (k - (i + 1)) + 1 by omega, List.getElem?_cons_succ]
      have hm0 : (((q :: qs)[i - i]?).map (·.2)).getD 0 = q.2 := by rw [Nat.sub_self]; rfl
      have si : ∀ k, i + 1 ≤ k → (if k = i then clean s else st k) = st k := fun k hk => if_neg (by omega)
      have sn : ∀ k, i + 1 ≤ k → (if k = i then env else en k) = en k := fun k hk => if_neg (by omega)
      have sl : ∀ k, i + 1 ≤ k → (if k = i then l else lg k) = lg k := fun k hk => if_neg (by omega)
      have sv : ∀ k, i + 1 ≤ k → (if k = i then v else vs k) = vs k := fun k hk => if_neg (by omega)
      rw [hlen]
      refine ⟨fun k => if k = i then clean s else st k, fun k => if k = i then env else en k, fun k => if k = i then l else lg k, fun k => if k = i then v else vs k, if_pos rfl, if_pos rfl, ?_, ?_, ⟨?_, ?_, ?_⟩, ?_, ?_⟩
      · show clean r.2 = if _ then _ else _
        rw [si _ (by omega)]; exact g3
      · show r.1 = if _ then _ else _
        rw [sn _ (by omega)]; exact g4
      · intro k o' h1 h2 h3
        show Loc c (if k = i then clean s else st k).nx (if k = i then clean s else st k) { (if k + 1 = i then clean s else st (k + 1)) with log := (if k = i then l else lg k) } (if k = i then l else lg k) (dAct P n os o' (if k = i then env else en k) (if k = i then v else vs k))
        rw [si (k + 1) (by omega)]
        by_cases hki : k = i
        · subst hki
          rw [if_pos rfl, if_pos rfl, if_pos rfl, if_pos rfl, g1]
          rw [ho] at h3
          cases h3
          have : ({ clean { s1 with log := dropBelow lb s1.log s.log } with log := l } : S) = s1 := by
            rw [← hlog]; rfl
          show Loc c s.nx (clean s) ({ clean { s1 with log := dropBelow lb s1.log s.log } with log := l } : S) l _
          rw [this]
          exact L
        · rw [si k (by omega), sl k (by omega), sn k (by omega), sv k (by omega)]
          exact g5.loc k o' (by omega) h2 h3
      · intro k o' h1 h2 h3
        show Puts o'.dst (if k = i then v else vs k) (if k = i then env else en k) (if k + 1 = i then env else en (k + 1))
        rw [sn (k + 1) (by omega)]
        by_cases hki : k = i
        · subst hki
          rw [if_pos rfl, if_pos rfl, g2]
          rw [ho] at h3
          cases h3
          exact hput
        · rw [sn k (by omega), sv k (by omega)]
          exact g5.put k o' (by omega) h2 h3
      · intro j k h1 h2 h3
        show apartB (j, (if j = i then clean s else st j).nx, (if j + 1 = i then clean s else st (j + 1)).nx, if j = i then l else lg j) (((q :: qs)[k - i]?).map (·.2) |>.getD 0) (if k = i then l else lg k) = true
        rw [si (j + 1) (by omega), sl k (by omega), hms k (by omega)]
        by_cases hji : j = i
        · subst hji
          rw [if_pos rfl, if_pos rfl, g1]
          have := g6 k (by omega) h3 _ (List.mem_cons_self)
          rw [hlog] at this
          exact this
        · rw [si j (by omega), sl j (by omega)]
          exact g5.chk j k (by omega) h2 h3
      · intro k h1 h2 e he
        show apartB e (((q :: qs)[k - i]?).map (·.2) |>.getD 0) (if k = i then l else lg k) = true
        by_cases hki : k = i
        · subst hki
          rw [if_pos rfl, hm0, ← hlog]
          exact List.all_eq_true.1 hall e he
        · rw [sl k (by omega), hms k (by omega)]
          exact g6 k (by omega) h2 e (List.mem_cons_of_mem _ he)
      · obtain ⟨l', d1, d2⟩ := dropBelow_app lb s1.log s.log
        refine ⟨Lg ++ l', ?_, fun x => ?_⟩
        · rw [g7, List.append_assoc]
          show Lg ++ dropBelow lb s1.log s.log = _
          rw [d1]
        · rw [List.mem_append, g8, d2, hlog]
          constructor
          · rintro (⟨k, k1, k2, k3, k4⟩ | ⟨h1, h2⟩)
            · exact ⟨k, by omega, k2, by show x ∈ if _ then _ else _; rw [sl k k1]; exact k3, k4⟩
            · exact ⟨i, Nat.le_refl _, by omega, by show x ∈ if _ then _ else _; rw [if_pos rfl]; exact h1, h2⟩
          · rintro ⟨k, k1, k2, k3, k4⟩
            have k3 : x ∈ (if k = i then l else lg k) := k3
            by_cases hki : k = i
            · rw [if_pos hki] at k3
              exact .inr ⟨k3, k4⟩
            · rw [if_neg hki] at k3
              exact .inl ⟨k, by omega, k2, k3, k4⟩
end Go.Kev
/- Kev: operations in any order that their needs leave open. -/
namespace Go.Kev
open Go.RowKit
open Classical
variable {c : Ctx} {P : Program} {n : Nat} {os : Array Oper}
/-- what must be done ahead of an operation -/
inductive Bef (os : Array Oper) : Nat → Nat → Prop
  | one {k : Nat} {o : Oper} {e : Edge} : os[k]? = some o → e ∈ o.after → Region.binds .any e = true → Bef os k e.on
  | more {k j i : Nat} : Bef os k j → Bef os j i → Bef os k i
/-- What a drawn region's text must fulfil; ms: a mask for each operation. -/
structure Drawn (n : Nat) (os : Array Oper) (ms : Nat → Nat) : Prop where
  one : ∀ (j k : Nat) (oj ok : Oper) (t : Nat), os[j]? = some oj → os[k]? = some ok → oj.dst = some t → ok.dst = some t → j = k
  look : ∀ (k j : Nat) (ok oj : Oper) (t : Nat), os[k]? = some ok → t ∈ ok.looksAt os → os[j]? = some oj → oj.dst = some t → (j < k ∧ (ms k).testBit j = true) ∨ (k < j ∧ (ms j).testBit k = true)
  bef : ∀ (k j : Nat), k < os.size → (ms k).testBit j = true → Bef os k j
  edge : ∀ (k : Nat) (o : Oper) (e : Edge), os[k]? = some o → e ∈ o.after → Region.binds .any e = true → e.on < k
  dst : ∀ (k : Nat) (o : Oper) (t : Nat), os[k]? = some o → o.dst = some t → t < n
def Lst (l : Array Bool) (i : Nat) : Prop := l.getD i false = true
theorem lst_set {l : Array Bool} {k i : Nat} (hk : k < l.size) : Lst (l.setIfInBounds k true) i ↔ Lst l i ∨ i = k := by
  unfold Lst
  by_cases h : k = i
  · subst h; simp [hk]
  · rw [getD_set_ne false h]
    constructor
    · exact .inl
    · rintro (x | x)
      · exact x
      · exact (h x.symm).elim
/-- what is listed has what it needs -/
def Closed (os : Array Oper) (l : Array Bool) : Prop := ∀ k o e, os[k]? = some o → Lst l k → e ∈ o.after → Region.binds .any e = true → Lst l e.on
theorem Closed.bef {l : Array Bool} (h : Closed os l) {k j : Nat} (hb : Bef os k j) : Lst l k → Lst l j := by
  induction hb with
  | one h1 h2 h3 => exact fun hk => h _ _ _ h1 hk h2 h3
  | more _ _ ih1 ih2 => exact fun hk => ih2 (ih1 hk)
theorem ready_bef {l : Array Bool} (h : Closed os l) {k j : Nat} (hk : k ∈ Region.ready .any os l) (hb : Bef os k j) : Lst l j := by
  induction hb with
  | one h1 h2 h3 =>
    obtain ⟨_, o, ho, hall⟩ := mem_ready.1 hk
    rw [h1] at ho
    cases ho
    exact hall _ h2 h3
  | more _ hb2 ih1 _ => exact h.bef hb2 (ih1 hk)
theorem ready_closed {l : Array Bool} (h : Closed os l) {k : Nat} (hsz : k < l.size) (hk : k ∈ Region.ready .any os l) : Closed os (l.setIfInBounds k true) := by
  intro i o e h1 h2 h3 h4
  rw [lst_set hsz] at h2 ⊢
  rcases h2 with h2 | rfl
  · exact .inl (h i o e h1 h2 h3 h4)
  · exact .inl (ready_bef h hk (.one h1 h3 h4))
theorem all_listed {ms : Nat → Nat} (hD : Drawn n os ms) {l : Array Bool} (hsz : l.size = os.size) (h : Region.ready .any os l = []) : ∀ k, k < os.size → Lst l k := by
  intro k
  induction k using Nat.strongRecOn with
  | ind k ih =>
    intro hk
    by_cases hl : Lst l k
    · exact hl
    · have : k ∈ Region.ready .any os l := by
        rw [mem_ready]
        refine ⟨?_, os[k], Array.getElem?_eq_getElem hk, fun e he hb => ?_⟩
        · unfold Lst at hl
          rw [Array.getD_eq_getD_getElem?] at hl ⊢
          rw [Array.getElem?_eq_getElem (by omega : k < l.size)] at hl ⊢
          simpa using hl
        · have := hD.edge k _ e (Array.getElem?_eq_getElem hk) he hb
          exact ih e.on this (by omega)
      rw [h] at this
      cases this
section
variable {ms : Nat → Nat} {st : Nat → S} {en : Nat → Env} {lg : Nat → List Nat} {vs : Nat → V}
abbrev Tch (st : Nat → S) (lg : Nat → List Nat) (i id : Nat) : Prop := Tc (st i).nx (st (i + 1)).nx (lg i) id
abbrev Wri (st : Nat → S) (lg : Nat → List Nat) (i id : Nat) : Prop := Wr (st i).nx (st (i + 1)).nx (lg i) id
theorem clash_false {a b : List Nat} (h : clash a b = false) {x y : Nat} (hx : x ∈ a) (hy : y ∈ b) (hxy : x / 2 = y / 2) : x % 2 = 0 ∧ y % 2 = 0 := by
  unfold clash at h
  rw [List.any_eq_false] at h
  have h := h x hx
  rw [Bool.not_eq_true, List.any_eq_false] at h
  have h := h y hy
  have e1 : Nat.beq (Nat.div x 2) (Nat.div y 2) = true := by
    rw [Nat.beq_eq]; exact hxy
  rw [e1] at h
  have h : ¬ (not (Nat.beq (Nat.add (Nat.mod x 2) (Nat.mod y 2)) 0)) = true := h
  rw [Bool.not_eq_true, Bool.not_eq_false', Nat.beq_eq] at h
  have h : x % 2 + y % 2 = 0 := h
  omega
/-- the machine's run, told of each operation, with its text -/
structure DAll (c : Ctx) (P : Program) (n : Nat) (os : Array Oper) (ms : Nat → Nat) (st : Nat → S) (en : Nat → Env) (lg : Nat → List Nat) (vs : Nat → V) : Prop extends Drawn n os ms, DRun c P n os ms 0 os.size st en lg vs where
  fr : Fresh (st 0)
theorem DAll.at (h : DAll c P n os ms st en lg vs) {k : Nat} (hk : k < os.size) : ∃ o, os[k]? = some o ∧ Loc c (st k).nx (st k) { st (k + 1) with log := lg k } (lg k) (dAct P n os o (en k) (vs k)) :=
  ⟨os[k], Array.getElem?_eq_getElem hk, h.loc k _ (Nat.zero_le _) hk (Array.getElem?_eq_getElem hk)⟩
theorem DAll.step (h : DAll c P n os ms st en lg vs) {k : Nat} (hk : k < os.size) : (st k).nx ≤ (st (k + 1)).nx := by
  obtain ⟨o, _, L⟩ := h.at hk
  exact L.tr.nx
theorem DAll.fresh (h : DAll c P n os ms st en lg vs) : ∀ k, k ≤ os.size → Fresh (st k)
  | 0, _ => h.fr
  | k + 1, hk => by
    obtain ⟨o, _, L⟩ := h.at (k := k) (by omega)
    exact L.tr.fresh (h.fresh k (by omega))
theorem DAll.mono (h : DAll c P n os ms st en lg vs) {j k : Nat} (hjk : j ≤ k) (hk : k ≤ os.size) : (st j).nx ≤ (st k).nx := by
  induction k with
  | zero => rw [Nat.le_zero.1 hjk]; exact Nat.le_refl _
  | succ k ih =>
    rcases Nat.lt_or_ge j (k + 1) with h1 | h1
    · exact Nat.le_trans (ih (by omega) (by omega)) (h.step (by omega))
    · rw [show j = k + 1 by omega]; exact Nat.le_refl _
theorem DAll.same (h : DAll c P n os ms st en lg vs) {j k id : Nat} (hjk : j ≤ k) (hk : k ≤ os.size) (hw : ∀ i, j ≤ i → i < k → ¬ Wri st lg i id) : hp (st k) id = hp (st j) id := by
  induction k with
  | zero => rw [Nat.le_zero.1 hjk]
  | succ k ih =>
    rcases Nat.lt_or_ge j (k + 1) with h1 | h1
    · obtain ⟨o, _, L⟩ := h.at (k := k) (by omega)
      exact (L.tr.keep id (hw k (by omega) (by omega))).trans (ih (by omega) (by omega) fun i a b => hw i a (by omega))
    · rw [show j = k + 1 by omega]
/-- two that meet in a place that one of them writes: the later one must wait -/
theorem DAll.meet (h : DAll c P n os ms st en lg vs) {j k id : Nat} (hjk : j < k) (hk : k < os.size) (hm : (Wri st lg j id ∧ Tch st lg k id) ∨ (Tch st lg j id ∧ Wri st lg k id)) : Bef os k j := by
  refine h.bef k j hk ?_
  have hc := h.chk j k (Nat.zero_le _) hjk hk
  unfold apartB at hc
  cases hb : (ms k).testBit j with
  | true => rfl
  | false =>
    exfalso
    have hb' : Nat.testBit (ms k) (j, (st j).nx, (st (j + 1)).nx, lg j).1 = false := hb
    rw [hb'] at hc
    have hc : cnd (clash (lg j) (lg k)) false ((lg k).all fun x => cnd (Nat.blt (Nat.div x 2) (st j).nx) true (Nat.ble (st (j + 1)).nx (Nat.div x 2))) = true := hc
    cases hcl : clash (lg j) (lg k) with
    | true => rw [hcl] at hc; cases hc
    | false =>
      rw [hcl] at hc
      have hc : ((lg k).all fun x => cnd (Nat.blt (Nat.div x 2) (st j).nx) true (Nat.ble (st (j + 1)).nx (Nat.div x 2))) = true := hc
      rw [List.all_eq_true] at hc
      have hrange : ∀ x ∈ lg k, x / 2 < (st j).nx ∨ (st (j + 1)).nx ≤ x / 2 := by
        intro x hx
        have := hc x hx
        rcases Nat.lt_or_ge (x / 2) (st j).nx with h1 | h1
        · exact .inl h1
        · refine .inr ?_
          have e1 : Nat.blt (Nat.div x 2) (st j).nx = false := by
            rw [Bool.eq_false_iff]
            intro y
            have : Nat.ble (x / 2 + 1) (st j).nx = true := y
            rw [Nat.ble_eq] at this
            omega
          rw [e1] at this
          have : Nat.ble (st (j + 1)).nx (x / 2) = true := this
          rw [Nat.ble_eq] at this
          exact this
      obtain ⟨oj, _, Lj⟩ := h.at (k := j) (by omega)
      have hlj : ∀ x ∈ lg j, x / 2 < (st (j + 1)).nx := Lj.tr.lt (h.fresh j (by omega))
      have hmono : (st (j + 1)).nx ≤ (st k).nx := h.mono (by omega) (by omega)
      have inlog : ∀ {x : Nat}, x = 2 * id ∨ x = 2 * id + 1 → x / 2 = id := by rintro x (rfl | rfl) <;> omega
      rcases hm with ⟨h1, h2⟩ | ⟨h1, h2⟩
      · rcases h1 with h1 | h1
        · rcases h2 with h2 | h2 | h2
          · omega
          · have := hrange _ h2; omega
          · have := hrange _ h2; omega
        · rcases h2 with h2 | h2 | h2
          · have := hlj _ h1; omega
          · have := clash_false hcl h1 h2 (by omega); omega
          · have := clash_false hcl h1 h2 (by omega); omega
      · rcases h2 with h2 | h2
        · rcases h1 with h1 | h1 | h1
          · omega
          · have := hlj _ h1; omega
          · have := hlj _ h1; omega
        · rcases h1 with h1 | h1 | h1
          · have := hrange _ h2; omega
          · have := clash_false hcl h1 h2 (by omega); omega
          · have := clash_false hcl h1 h2 (by omega); omega
theorem DAll.env (h : DAll c P n os ms st en lg vs) {j k t : Nat} (hjk : j ≤ k) (hk : k ≤ os.size) (hw : ∀ i o, j ≤ i → i < k → os[i]? = some o → o.dst ≠ some t) : (O.t (toP t)).ev (en k) = (O.t (toP t)).ev (en j) := by
  induction k with
  | zero => rw [Nat.le_zero.1 hjk]
  | succ k ih =>
    rcases Nat.lt_or_ge j (k + 1) with h1 | h1
    · obtain ⟨o, ho, _⟩ := h.at (k := k) (by omega)
      have := h.put k o (Nat.zero_le _) (by omega) ho t
      rw [this, if_neg (hw k o (by omega) (by omega) ho)]
      exact ih (by omega) (by omega) fun i o a b => hw i o a (by omega)
    · rw [show j = k + 1 by omega]
/-- How things stand when some are done. -/
structure DInv (c : Ctx) (n : Nat) (os : Array Oper) (st : Nat → S) (en : Nat → Env) (lg : Nat → List Nat) (e0 : Emb) (H0 : Hp) (l : Array Bool) (e : Emb) (H : Hp) (w : World) (a : Act) : Prop where
  size : l.size = os.size
  closed : Closed os l
  le : e0.le e
  D : ∀ id, e.D id ↔ e0.D id ∨ ∃ i, i < os.size ∧ Lst l i ∧ (st i).nx ≤ id ∧ id < (st (i + 1)).nx
  rel : Rel c e H w
  seen : ∀ id i, i < os.size → Tch st lg i id → ∀ m, m ≤ os.size → (∀ i, i < m → Wri st lg i id → Lst l i) → (∀ i, m ≤ i → i < os.size → Wri st lg i id → ¬ Lst l i) → H id = hp (st m) id
  unseen : ∀ id, (∀ i, i < os.size → ¬ Tch st lg i id) → H id = H0 id
  asz : a.tmps.size = n
  def_ : a.defers = []
  tmp0 : ∀ t, (∀ j o, os[j]? = some o → o.dst = some t → ¬ Lst l j) → a.tmps.getD t undef = rho e ((O.t (toP t)).ev (en 0)) ∧ ok e ((O.t (toP t)).ev (en 0))
  tmp : ∀ t, (∀ j o, os[j]? = some o → o.dst = some t → Lst l j) → a.tmps.getD t undef = rho e ((O.t (toP t)).ev (en os.size)) ∧ ok e ((O.t (toP t)).ev (en os.size))
theorem DInv.next (hA : DAll c P n os ms st en lg vs) {e0 : Emb} {H0 : Hp} (h0 : ∀ id, (st 0).nx ≤ id → id < (st os.size).nx → ¬ e0.D id) {l : Array Bool} {e : Emb} {H : Hp} {w : World} {a : Act} (I : DInv c n os st en lg e0 H0 l e H w a)
    {k : Nat} (hk : k ∈ Region.ready .any os l) {K : Act → World → Prop} {Q : Exit → Act → World → Prop}
    (hK : ∀ e' H' w' a', DInv c n os st en lg e0 H0 (l.setIfInBounds k true) e' H' w' a' → K a' w') : wpOp P os Q k K a w := by
  obtain ⟨hun, o, ho, _⟩ := mem_ready.1 hk
  have hks : k < os.size := (Array.getElem?_eq_some_iff.1 ho).1
  have hkl : k < l.size := by rw [I.size]; exact hks
  have hnk : ¬ Lst l k := by
    intro x
    unfold Lst at x
    rw [Array.getD_eq_getD_getElem?, Array.getElem?_eq_getElem hkl] at x hun
    simp at x hun
    rw [x] at hun
    cases hun
  have L := hA.loc k o (Nat.zero_le _) hks ho
  have hfr := hA.fresh k (by omega)
  have early : ∀ {i id}, i < k → (Wri st lg i id ∧ Tch st lg k id) ∨ (Tch st lg i id ∧ Wri st lg k id) → Lst l i := fun hi hm => ready_bef I.closed hk (hA.meet hi hks hm)
  have late : ∀ {i id}, k < i → i < os.size → (Wri st lg k id ∧ Tch st lg i id) ∨ (Tch st lg k id ∧ Wri st lg i id) → ¬ Lst l i := fun hi his hm hl => hnk (I.closed.bef (hA.meet hi his hm) hl)
  have hpre : ∀ id, Tc (st k).nx (st (k + 1)).nx (lg k) id → H id = hp (st k) id := by
    intro id ht
    refine I.seen id k hks ht k (by omega) (fun i hi hw => early hi (.inl ⟨hw, ht⟩)) fun i h1 h2 hw => ?_
    rcases Nat.lt_or_ge k i with h3 | h3
    · exact late h3 h2 (.inr ⟨ht, hw⟩)
    · rw [show i = k by omega]; exact hnk
  have hnew : ∀ id, (st k).nx ≤ id → id < (st (k + 1)).nx → ¬ e.D id := by
    intro id h1 h2 hd
    rcases (I.D id).1 hd with hd | ⟨i, hi, hl, h3, h4⟩
    · exact h0 id (Nat.le_trans (hA.mono (Nat.zero_le _) (by omega)) h1) (Nat.lt_of_lt_of_le h2 (hA.mono (by omega) (Nat.le_refl _))) hd
    · rcases Nat.lt_trichotomy i k with h5 | h5 | h5
      · have := hA.mono (j := i + 1) (k := k) (by omega) (by omega); omega
      · exact hnk (h5 ▸ hl)
      · have := hA.mono (j := k + 1) (k := i) (by omega) (by omega); omega
  have hrun := L.run hfr e H w hpre I.rel hnew
  have hlook : LookR e os o (en k) a := by
    intro t ht
    by_cases hlate : ∃ j oj, os[j]? = some oj ∧ oj.dst = some t ∧ ¬ Lst l j
    · obtain ⟨j, oj, hj, hd, hnl⟩ := hlate
      have hjk : k < j ∧ (ms j).testBit k = true := by
        rcases hA.look k j o oj t ho ht hj hd with ⟨h1, h2⟩ | h
        · exact (hnl (ready_bef I.closed hk (hA.bef k j hks h2))).elim
        · exact h
      have only : ∀ i oi, os[i]? = some oi → oi.dst = some t → i = j := fun i oi hi hdi => hA.one i j oi oj t hi hj hdi hd
      have := I.tmp0 t fun i oi hi hdi => by rw [only i oi hi hdi]; exact hnl
      rw [hA.env (j := 0) (k := k) (t := t) (Nat.zero_le _) (by omega) fun i oi _ h2 hi hdi => by
        have := only i oi hi hdi; omega]
      exact this
    · have hw : ∀ j oj, os[j]? = some oj → oj.dst = some t → Lst l j ∧ j < k := by
        intro j oj hj hd
        have hl : Lst l j := Classical.byContradiction fun hn => hlate ⟨j, oj, hj, hd, hn⟩
        rcases hA.look k j o oj t ho ht hj hd with h | ⟨h1, h2⟩
        · exact ⟨hl, h.1⟩
        · exact (hnk (I.closed.bef (hA.bef j k (Array.getElem?_eq_some_iff.1 hj).1 h2) hl)).elim
      have := I.tmp t fun j oj hj hd => (hw j oj hj hd).1
      rw [hA.env (j := k) (k := os.size) (t := t) (by omega) (Nat.le_refl _) fun i oi h1 h2 hi hd => by
        have := (hw i oi hi hd).2; omega] at this
      exact this
  have := hrun a K Q hlook I.asz ?_
  · unfold wpOp
    rw [ho]
    show if _ then _ else _
    split
    · rename_i hw; rw [if_pos hw] at this; exact .inl this
    · rename_i hw; rw [if_neg hw] at this; exact this
  · rintro e' w' ⟨le', D', R'⟩ _ hokv
    refine hK e' _ w' _ ⟨by rw [Array.size_setIfInBounds]; exact I.size, ready_closed I.closed hkl hk, I.le.trans le', fun id => ?_, R', ?_, ?_, ?_, ?_, ?_, ?_⟩
    · rw [D', I.D]
      constructor
      · rintro ((x | ⟨i, h1, h2, h3⟩) | x)
        · exact .inl x
        · exact .inr ⟨i, h1, (lst_set hkl).2 (.inl h2), h3⟩
        · exact .inr ⟨k, hks, (lst_set hkl).2 (.inr rfl), x⟩
      · rintro (x | ⟨i, h1, h2, h3⟩)
        · exact .inl (.inl x)
        · rcases (lst_set hkl).1 h2 with h2 | rfl
          · exact .inl (.inr ⟨i, h1, h2, h3⟩)
          · exact .inr h3
    · intro id i0 hi0 ht0 m hm h1 h2
      show (if Tc (st k).nx (st (k + 1)).nx (lg k) id then hp (st (k + 1)) id else H id) = _
      by_cases ht : Tc (st k).nx (st (k + 1)).nx (lg k) id
      · rw [if_pos ht]
        rcases Nat.lt_or_ge k m with hkm | hkm
        · refine (hA.same (j := k + 1) (k := m) (by omega) hm fun i a1 a2 hw => ?_).symm
          have := (lst_set hkl).1 (h1 i a2 hw)
          rcases this with this | this
          · exact late (by omega) (by omega) (.inr ⟨ht, hw⟩) this
          · omega
        · refine hA.same (j := m) (k := k + 1) (by omega) (by omega) fun i a1 a2 hw => ?_
          refine h2 i a1 (by omega) hw ((lst_set hkl).2 ?_)
          rcases Nat.lt_or_ge i k with hik | hik
          · exact .inl (early hik (.inl ⟨hw, ht⟩))
          · exact .inr (by omega)
      · rw [if_neg ht]
        refine I.seen id i0 hi0 ht0 m hm (fun i a1 hw => ?_) fun i a1 a2 hw hl => h2 i a1 a2 hw ((lst_set hkl).2 (.inl hl))
        rcases (lst_set hkl).1 (h1 i a1 hw) with h3 | rfl
        · exact h3
        · exact (ht hw.tc).elim
    · intro id ht
      show (if Tc (st k).nx (st (k + 1)).nx (lg k) id then hp (st (k + 1)) id else H id) = _
      rw [if_neg (ht k hks)]
      exact I.unseen id ht
    · cases hd : o.dst with
      | none => exact I.asz
      | some d => simp [Act.put, I.asz]
    · cases hd : o.dst with
      | none => exact I.def_
      | some d => exact I.def_
    · intro t hw
      have hd : o.dst ≠ some t := fun hd => hw k o ho hd ((lst_set hkl).2 (.inr rfl))
      have h1 := I.tmp0 t fun j oj hj hdj hl => hw j oj hj hdj ((lst_set hkl).2 (.inl hl))
      obtain ⟨b1, b2⟩ := rho_le le' _ h1.2
      refine ⟨?_, b1⟩
      rw [b2, ← h1.1]
      cases hdo : o.dst with
      | none => rfl
      | some d =>
        have hne : d ≠ t := fun x => hd (by rw [hdo, x])
        simp [Act.put, Array.getElem?_setIfInBounds_ne hne]
    · intro t hw
      by_cases hd : o.dst = some t
      · have hlt := hA.dst k o t ho hd
        have hv : (O.t (toP t)).ev (en os.size) = vs k := by
          rw [hA.env (j := k + 1) (k := os.size) (t := t) (by omega) (Nat.le_refl _) fun i oi h1 h2 hi hd' => by
            have := hA.one i k oi o t hi ho hd' hd; omega]
          have := hA.put k o (Nat.zero_le _) hks ho t
          rw [this, if_pos hd]
        rw [hv, hd]
        refine ⟨?_, hokv⟩
        have := I.asz
        simp [Act.put, this, hlt]
      · have h1 := I.tmp t fun j oj hj hdj => by
          rcases (lst_set hkl).1 (hw j oj hj hdj) with h3 | rfl
          · exact h3
          · rw [ho] at hj; cases hj; exact (hd hdj).elim
        obtain ⟨b1, b2⟩ := rho_le le' _ h1.2
        refine ⟨?_, b1⟩
        rw [b2, ← h1.1]
        cases hdo : o.dst with
        | none => rfl
        | some d =>
          have hne : d ≠ t := fun x => hd (by rw [hdo, x])
          simp [Act.put, Array.getElem?_setIfInBounds_ne hne]
theorem DInv.any (hA : DAll c P n os ms st en lg vs) {e0 : Emb} {H0 : Hp} (h0 : ∀ id, (st 0).nx ≤ id → id < (st os.size).nx → ¬ e0.D id) {Q : Exit → Act → World → Prop}
    (hQ : ∀ l e H w a, (∀ k, k < os.size → Lst l k) → DInv c n os st en lg e0 H0 l e H w a → Q .normal a w) :
    ∀ (fuel : Nat) (l : Array Bool) (e : Emb) (H : Hp) (w : World) (a : Act), (l.toList.count false) ≤ fuel → DInv c n os st en lg e0 H0 l e H w a → wpAny P .any os Q fuel l a w := by
  intro fuel
  induction fuel with
  | zero =>
    intro l e H w a hcnt I
    have hall : ∀ k, k < os.size → Lst l k := by
      intro k hk
      have hkl : k < l.size := by rw [I.size]; exact hk
      unfold Lst
      rw [Array.getD_eq_getD_getElem?, Array.getElem?_eq_getElem hkl]
      simp only [Option.getD_some]
      cases hv : l[k] with
      | true => rfl
      | false =>
        have : false ∈ l.toList := by rw [← hv]; simp
        have := List.count_pos_iff.2 this
        omega
    refine ⟨?_, hQ l e H w a hall I⟩
    rw [List.eq_nil_iff_forall_not_mem]
    intro k hk
    obtain ⟨hun, o, ho, _⟩ := mem_ready.1 hk
    have hks : k < os.size := (Array.getElem?_eq_some_iff.1 ho).1
    have := hall k hks
    unfold Lst at this
    have hkl : k < l.size := by rw [I.size]; exact hks
    rw [Array.getD_eq_getD_getElem?, Array.getElem?_eq_getElem hkl] at this hun
    simp at this hun
    rw [this] at hun
    cases hun
  | succ fuel ih =>
    intro l e H w a hcnt I
    refine ⟨fun h => hQ l e H w a (all_listed hA.toDrawn I.size h) I, fun k hk => ?_⟩
    refine I.next hA h0 hk fun e' H' w' a' I' => ih _ e' H' w' a' ?_ I'
    obtain ⟨hun, o, ho, _⟩ := mem_ready.1 hk
    have hks : k < os.size := (Array.getElem?_eq_some_iff.1 ho).1
    have hkl : k < l.size := by rw [I.size]; exact hks
    rw [Array.getD_eq_getD_getElem?, Array.getElem?_eq_getElem hkl] at hun
    simp at hun
    have hset : (l.setIfInBounds k true).toList = l.toList.set k true := by simp
    rw [hset]
    have hlk : l.toList[k]'(by simpa using hkl) = false := by simpa using hun
    have := List.count_set (a := true) (b := false) (l := l.toList) (i := k) (by simpa using hkl)
    have hpos : 0 < l.toList.count false := List.count_pos_iff.2 (by rw [← hlk]; exact List.getElem_mem _)
    have e1 : (if (l.toList[k]'(by simpa using hkl) == false) = true then 1 else 0) = 1 := by rw [hlk]; rfl
    have e2 : (if ((true : Bool) == false) = true then 1 else 0) = 0 := rfl
    rw [e1, e2] at this
    omega
end
end Go.Kev
/- Kev: a drawn region. -/
namespace Go.Kev
open Go.RowKit
open Classical
variable {c : Ctx} {P : Program} {n : Nat} {os : Array Oper}
theorem below_drawn {w0 w : World} {k m : Nat} (h : Below m w0 w) : Below m w0 { w with drawn := k } := h.trans ⟨rfl, rfl, rfl, Nat.le_refl _, fun _ _ => rfl⟩
theorem ObR.drawn {e : Emb} {w : World} {id : Nat} {o : Ob} {k : Nat} (h : ObR e w id o) : ObR e { w with drawn := k } id o := h.world rfl
theorem Rel.drawn {e : Emb} {H : Hp} {w : World} {k : Nat} (h : Rel c e H w) : Rel c e H { w with drawn := k } :=
  ⟨fun id o ho => ⟨(h.ob id o ho).1, (h.ob id o ho).2.drawn⟩, h.inj, h.new, below_drawn h.below, h.glob⟩
theorem good_dreg {id : Nat} {qs : List (AOper × Nat)} (hm : P.follows .mixedOrders = true) (hF : FitsD c P n os 0 qs) (hD : Drawn n os fun k => ((qs[k]?).map (·.2)).getD 0) : Good c P n (.region id os true) (sem (.dreg qs)) := by
  intro call f lb env s r hc hl hf h
  have h : outR .nrm (dops qs call lb 0 [] env s) = some r := h
  cases ho : dops qs call lb 0 [] env s with
  | none => rw [ho] at h; cases h
  | some p =>
    rw [ho] at h
    cases h
    have hlen := hF.len
    rw [Nat.zero_add] at hlen
    obtain ⟨st, en, lg, vs, g1, g2, g3, g4, g5, _, L, g7, g8⟩ := dops_run hc lb hF hf ho
    rw [Nat.zero_add, ← hlen] at g3 g4 g5 g8
    have hA : DAll c P n os (fun k => ((qs[k]?).map (·.2)).getD 0) st en lg vs := ⟨hD, g5, by rw [g1]; exact hf⟩
    have hnx0 : (st 0).nx = s.nx := by rw [g1]; rfl
    have hhp0 : hp (st 0) = hp s := by rw [g1]; rfl
    have hnx1 : (st os.size).nx = p.2.nx := by rw [← g3]; rfl
    have hhp1 : hp (st os.size) = hp p.2 := by rw [← g3]; rfl
    have hmono : s.nx ≤ p.2.nx := by rw [← hnx0, ← hnx1]; exact hA.mono (Nat.zero_le _) (Nat.le_refl _)
    have hloglt : ∀ k, k < os.size → ∀ x ∈ lg k, x / 2 < p.2.nx := by
      intro k hk x hx
      obtain ⟨o, _, Lk⟩ := hA.at hk
      have h1 : x / 2 < (st (k + 1)).nx := Lk.tr.lt (hA.fresh k (by omega)) x hx
      have h2 := hA.mono (j := k + 1) (k := os.size) (by omega) (Nat.le_refl _)
      omega
    have htouch : ∀ i id, i < os.size → Tch st lg i id → Tc lb p.2.nx L id := by
      intro i id hi ht
      have h1 := hA.mono (j := 0) (k := i) (Nat.zero_le _) (by omega)
      have h2 := hA.mono (j := i + 1) (k := os.size) (by omega) (Nat.le_refl _)
      rcases ht with ht | ht | ht
      · exact .inl ⟨by omega, by omega⟩
      · by_cases hb : id < lb
        · exact .inr (.inl ((g8 _).2 ⟨i, Nat.zero_le _, hi, ht, by omega⟩))
        · have := hloglt i hi _ ht
          exact .inl ⟨by omega, by omega⟩
      · by_cases hb : id < lb
        · exact .inr (.inr ((g8 _).2 ⟨i, Nat.zero_le _, hi, ht, by omega⟩))
        · have := hloglt i hi _ ht
          exact .inl ⟨by omega, by omega⟩
    have hwrite : ∀ i id, i < os.size → Wri st lg i id → Wr lb p.2.nx L id := by
      intro i id hi ht
      have h1 := hA.mono (j := 0) (k := i) (Nat.zero_le _) (by omega)
      have h2 := hA.mono (j := i + 1) (k := os.size) (by omega) (Nat.le_refl _)
      rcases ht with ht | ht
      · exact .inl ⟨by omega, by omega⟩
      · by_cases hb : id < lb
        · exact .inr ((g8 _).2 ⟨i, Nat.zero_le _, hi, ht, by omega⟩)
        · have := hloglt i hi _ ht
          exact .inl ⟨by omega, by omega⟩
    refine ⟨L, ⟨g7, hmono, fun id hw => ?_, fun fr id hid => ?_, fun _ x hx => ?_⟩, fun fr e H w hH hR hn => ?_⟩
    · rw [← hhp1, ← hhp0]
      exact hA.same (j := 0) (k := os.size) (Nat.zero_le _) (Nat.le_refl _) fun i _ hi hwi => hw (hwrite i id hi hwi)
    · rw [← hhp1]
      exact hA.fresh os.size (Nat.le_refl _) id (by rw [hnx1]; exact hid)
    · obtain ⟨k, _, hk, hx, _⟩ := (g8 x).1 hx
      exact hloglt k hk x hx
    · intro a Q0 hE hk
      have h0 : ∀ id, (st 0).nx ≤ id → id < (st os.size).nx → ¬ e.D id := by
        rw [hnx0, hnx1]; exact hn
      have hcnt : (Array.replicate os.size false).toList.count false ≤ os.size := by simp
      have nolst : ∀ k, ¬ Lst (Array.replicate os.size false) k := by
        intro k hk
        unfold Lst at hk
        rw [Array.getD_eq_getD_getElem?, Array.getElem?_replicate] at hk
        split at hk <;> simp at hk
      have I0 : DInv c n os st en lg e H (Array.replicate os.size false) e H { w with drawn := w.drawn + 1 } a := by
        refine ⟨by simp, fun k o e _ hl => (nolst k hl).elim, .refl e, fun id => ⟨.inl, fun x => x.elim (fun y => y) fun ⟨i, _, hi, _⟩ => (nolst i hi).elim⟩, hR.drawn, ?_, fun _ _ => rfl, hE.size, hE.defers, fun t _ => by rw [g2]; exact hE.at_ t, fun t ht => ?_⟩
        · intro id i hi ht m hm h1 h2
          have e1 : hp (st m) id = hp (st 0) id := hA.same (j := 0) (k := m) (Nat.zero_le _) hm fun j _ hj hw => nolst j (h1 j hj hw)
          rw [e1, hhp0]
          exact hH id (htouch i id hi ht)
        · have e1 : (O.t (toP t)).ev (en os.size) = (O.t (toP t)).ev (en 0) := hA.env (j := 0) (k := os.size) (t := t) (Nat.zero_le _) (Nat.le_refl _) fun i o _ _ hi hd => nolst i (ht i o hi hd)
          rw [e1, g2]
          exact hE.at_ t
      refine wp_region_any hm ?_
      refine DInv.any hA h0 (Q := Q0) ?_ os.size (Array.replicate os.size false) e H _ a hcnt I0
      intro l e' H' w' a' hall I
      have hmix : H' = mix lb p.2.nx L (hp p.2) H := by
        funext id
        unfold mix
        by_cases ht : ∃ i, i < os.size ∧ Tch st lg i id
        · obtain ⟨i, hi, ht⟩ := ht
          rw [if_pos (htouch i id hi ht), I.seen id i hi ht os.size (Nat.le_refl _) (fun j hj _ => hall j hj) (fun j h1 h2 _ => by omega), hhp1]
        · have ht : ∀ i, i < os.size → ¬ Tch st lg i id := fun i hi x => ht ⟨i, hi, x⟩
          rw [I.unseen id ht]
          split
          · rename_i htc
            rw [hH id htc, ← hhp1, ← hhp0]
            exact (hA.same (j := 0) (k := os.size) (Nat.zero_le _) (Nat.le_refl _) fun i _ hi hw => ht i hi hw.tc).symm
          · rfl
      refine hk e' w' a' ⟨I.le, fun id => ?_, hmix ▸ I.rel⟩ I.le ⟨I.asz, I.def_, fun t => ?_⟩
      · rw [I.D]
        constructor
        · rintro (x | ⟨i, hi, _, h1, h2⟩)
          · exact .inl x
          · have h3 := hA.mono (j := 0) (k := i) (Nat.zero_le _) (by omega)
            have h4 := hA.mono (j := i + 1) (k := os.size) (by omega) (Nat.le_refl _)
            exact .inr ⟨show s.nx ≤ id by omega, show id < p.2.nx by omega⟩
        · rintro (x | ⟨h1, h2⟩)
          · exact .inl x
          · have h1 : s.nx ≤ id := h1
            have h2 : id < p.2.nx := h2
            refine .inr ?_
            have h9 : (st 0).nx ≤ id := by omega
            have key : ∀ k, k ≤ os.size → id < (st k).nx → ∃ i, i < k ∧ (st i).nx ≤ id ∧ id < (st (i + 1)).nx := by
              intro k
              induction k with
              | zero => intro _ h; omega
              | succ k ih =>
                intro hk h
                rcases Nat.lt_or_ge id (st k).nx with h5 | h5
                · obtain ⟨i, h6, h7⟩ := ih (by omega) h5
                  exact ⟨i, by omega, h7⟩
                · exact ⟨k, by omega, h5, h⟩
            obtain ⟨i, h6, h7, h8⟩ := key os.size (Nat.le_refl _) (by omega)
            exact ⟨i, h6, hall i h6, h7, h8⟩
      · rw [g4]
        exact I.tmp t fun j o hj _ => hall j (Array.getElem?_eq_some_iff.1 hj).1
end Go.Kev
/- Kev: functions without a body. -/
namespace Go.Kev
open Go.RowKit
variable {c : Ctx} {P : Program} {f : Nat} {fn : Func}
/-- a function without a body: its entry -/
structure Ext (P : Program) (f : Nat) (fn : Func) (e : Array Value → Sem Value) : Prop where
  at_ : P.funcs[f]? = some fn
  name : (fn.name == "runtime.NumGoroutine") = false
  body : fn.body.isNone = true
  next : Extern.findNext fn = none
  find : Extern.find fn = some e
theorem Ext.callee {e : Array Value → Sem Value} (h : Ext P f fn e) {args : Array Value} {w w' : World} {v : Value} (hr : (e args).run P w = .ok v w') {next : Value → World → Prop} (k : next v w') : Callee P f args w next := by
  unfold Callee
  rw [run_callFunc_extern h.at_ h.name h.body h.next h.find, hr]
  exact k
theorem onArg1_some {l : List V} {k : V → R} {r : Env × S} (h : onArg1 l k = some r) : ∃ x, l = [x] ∧ k x = some r := by
  cases l with
  | nil => cases h
  | cons x l => cases l with
    | nil => exact ⟨x, rfl, h⟩
    | cons y l => cases h
theorem onArg2_some {l : List V} {k : V → V → R} {r : Env × S} (h : onArg2 l k = some r) : ∃ x y, l = [x, y] ∧ k x y = some r := by
  cases l with
  | nil => cases h
  | cons x l =>
    obtain ⟨y, rfl, h⟩ := onArg1_some (l := l) (k := k x) h
    exact ⟨x, y, rfl, h⟩
theorem fn_none {x : AF} (h : ∀ ih fu lb args s k, x.run ih fu lb args s k = none) : FnOk c P f x := by
  intro ih fu lb args s k r hc hl hf hr
  rw [h] at hr
  cases hr
theorem fn_no : FnOk c P f .no := fn_none fun _ _ _ _ _ _ => rfl
theorem fn_noEscape (h : Ext P f fn Extern.AbiNoEscape.same) : FnOk c P f .noEscape := by
  intro ih fu lb args s k r hc hl hf hr
  obtain ⟨x, rfl, hr⟩ := onArg1_some hr
  refine ⟨x, s, [], hr, Loc.pure fun e w Q q ho => ?_⟩
  exact h.callee (v := rho e x) rfl ⟨e, rfl, ho.1, q⟩
theorem sfind_go (b c : Nat) : ∀ n i, (Nat.rec (fun _ => none) (fun _ ih i => Bool.rec (ih (Nat.succ i)) (some i) (Nat.beq (sget b i) c)) n : Nat → Option Nat) i = (List.range' i n).find? (fun j => Nat.beq (sget b j) c)
  | 0, i => rfl
  | n + 1, i => by
    rw [List.range'_succ, List.find?_cons]
    show (Bool.rec _ (some i) (Nat.beq (sget b i) c) : Option Nat) = _
    cases Nat.beq (sget b i) c with
    | true => rfl
    | false => exact sfind_go b c n (i + 1)
theorem find_congr' {α : Type} {p q : α → Bool} : ∀ {l : List α}, (∀ x ∈ l, p x = q x) → l.find? p = l.find? q
  | [], _ => rfl
  | a :: l, h => by
    rw [List.find?_cons, List.find?_cons, h a (List.mem_cons_self ..), find_congr' fun x hx => h x (List.mem_cons_of_mem _ hx)]
theorem firstIdx_sarr (n b c : Nat) (hc : c < 256) : firstIdx (sarr n b) (Int.ofNat c).toNat.toUInt8 = match sfind n b c with | some i => (i : Int) | none => -1 := by
  have h1 : sfind n b c = (List.range' 0 n).find? (fun j => Nat.beq (sget b j) c) := sfind_go b c n 0
  have h2 : (List.range (sarr n b).size).find? (fun i => (sarr n b)[i]! == (Int.ofNat c).toNat.toUInt8) = (List.range' 0 n).find? (fun j => Nat.beq (sget b j) c) := by
    rw [sarr_size, List.range_eq_range']
    apply Go.Kev.find_congr'
    intro i hi
    have hi : i < n := by
      have := List.mem_range'_1.1 hi
      omega
    have hl : i < (sbytes n b).length := by rw [sbytes_length]; exact hi
    have e1 : (ByteArray.mk (sbytes n b).toArray)[i]! = (sbytes n b)[i] := getElem!_pos (ByteArray.mk (sbytes n b).toArray) i hl
    have e1 : (sarr n b)[i]! = UInt8.ofNat (sget b i) := e1.trans (by simp [sbytes])
    rw [e1, Bool.eq_iff_iff, beq_iff_eq, Nat.beq_eq]
    constructor
    · intro h
      have h := congrArg UInt8.toNat h
      have := sget_lt b i
      simpa [Nat.mod_eq_of_lt this, Nat.mod_eq_of_lt hc] using h
    · intro h
      rw [h]
      rfl
  unfold firstIdx
  rw [h2, h1]
  cases (List.range' 0 n).find? (fun j => Nat.beq (sget b j) c) <;> rfl
theorem fn_indexByte (h : Ext P f fn Extern.BytealgIndexByte.indexByte) : FnOk c P f .indexByte := by
  intro ih fu lb args s k r hc hl hf hr0
  obtain ⟨x, y, rfl, hr1⟩ := onArg2_some hr0
  rcases onStr_some hr1 with ⟨n, b, rfl, hr2⟩ | ⟨_, hr2⟩
  · obtain ⟨kd, m, rfl, hr3⟩ := onInt_some hr2
    obtain ⟨hk, hr⟩ := cnd_none hr3
    clear hr0 hr1 hr2 hr3
    cases m with
    | negSucc m => cases hr
    | ofNat m =>
      obtain ⟨hm, hrn⟩ := cnd_none (show cnd (Nat.blt m 256) (Option.rec (k (.int .i64 (.negSucc 0)) s) (fun i => k (goI i) s) (sfind n b m)) none = some r from hr)
      have hm : m < 256 := by
        have : Nat.ble (m + 1) 256 = true := hm
        rw [Nat.ble_eq] at this
        omega
      have hkd : kd = .u8 := by cases kd <;> first | rfl | cases hk
      subst hkd
      have key : k (.int .i64 (match sfind n b m with | some i => (i : Int) | none => -1)) s = some r := by
        cases hs : sfind n b m with
        | none => rw [hs] at hrn; exact hrn
        | some i => rw [hs] at hrn; exact hrn
      refine ⟨_, s, [], key, Loc.pure fun e w Q q ho => ?_⟩
      refine h.callee (v := Value.int .i64 (firstIdx (sarr n b) (Int.ofNat m).toNat.toUInt8)) (Go.run_indexByte_string (sarr n b) (Int.ofNat m) w) ⟨e, ?_, trivial, q⟩
      rw [firstIdx_sarr n b m hm]
      rfl
  · cases hr2
theorem scount_go (b c : Nat) : ∀ n i, (Nat.rec (fun _ => 0) (fun _ ih i => Bool.rec (ih (Nat.succ i)) (Nat.succ (ih (Nat.succ i))) (Nat.beq (sget b i) c)) n : Nat → Nat) i = ((List.range' i n).map fun j => sget b j).count c
  | 0, i => rfl
  | n + 1, i => by
    rw [List.range'_succ, List.map_cons, List.count_cons]
    show (Bool.rec _ _ (Nat.beq (sget b i) c) : Nat) = _
    have ih := scount_go b c n (i + 1)
    cases h : Nat.beq (sget b i) c with
    | true =>
      have e : (sget b i == c) = true := by rw [beq_iff_eq]; rw [Nat.beq_eq] at h; exact h
      rw [e, if_pos rfl, ← ih]
    | false =>
      have e : (sget b i == c) = false := by
        rw [beq_eq_false_iff_ne]
        intro x
        have : Nat.beq (sget b i) c = true := by rw [Nat.beq_eq]; exact x
        rw [h] at this; cases this
      rw [e, if_neg Bool.false_ne_true, ← ih, Nat.add_zero]
theorem count_map8 (c : Nat) (hc : c < 256) : ∀ l : List Nat, (∀ x ∈ l, x < 256) → (l.map UInt8.ofNat).count (UInt8.ofNat c) = l.count c
  | [], _ => rfl
  | x :: l, h => by
    rw [List.map_cons, List.count_cons, List.count_cons, count_map8 c hc l fun y hy => h y (List.mem_cons_of_mem _ hy)]
    have hx := h x (List.mem_cons_self ..)
    have e : (UInt8.ofNat x == UInt8.ofNat c) = (x == c) := by
      rw [Bool.eq_iff_iff, beq_iff_eq, beq_iff_eq]
      constructor
      · intro hh
        have hh := congrArg UInt8.toNat hh
        simpa [Nat.mod_eq_of_lt hx, Nat.mod_eq_of_lt hc] using hh
      · intro hh; rw [hh]
    rw [e]
theorem fn_countStr (h : Ext P f fn Extern.BytealgCount.count) : FnOk c P f .countStr := by
  intro ih fu lb args s k r hc hl hf hr0
  obtain ⟨x, y, rfl, hr1⟩ := onArg2_some hr0
  rcases onStr_some hr1 with ⟨n, b, rfl, hr2⟩ | ⟨_, hr2⟩
  · obtain ⟨kd, m, rfl, hr3⟩ := onInt_some hr2
    obtain ⟨hk, hr⟩ := cnd_none hr3
    clear hr0 hr1 hr2 hr3
    cases m with
    | negSucc m => cases hr
    | ofNat m =>
      obtain ⟨hm, hrn⟩ := cnd_none (show cnd (Nat.blt m 256) (k (goI (scount n b m)) s) none = some r from hr)
      have hm : m < 256 := by
        have : Nat.ble (m + 1) 256 = true := hm
        rw [Nat.ble_eq] at this
        omega
      have hkd : kd = .u8 := by cases kd <;> first | rfl | cases hk
      subst hkd
      refine ⟨_, s, [], hrn, Loc.pure fun e w Q q ho => ?_⟩
      refine h.callee (Go.Lib.run_countString (sarr n b) (Int.ofNat m) w) ⟨e, ?_, trivial, q⟩
      have e1 : Go.Lib.countByte (sarr n b).data.toList (Int.ofNat m).toNat.toUInt8 = scount n b m := by
        unfold Go.Lib.countByte
        show (sbytes n b).count (UInt8.ofNat m) = _
        unfold sbytes
        have e2 : (List.range n).map (fun i => UInt8.ofNat (sget b i)) = ((List.range n).map fun i => sget b i).map UInt8.ofNat := by
          rw [List.map_map]; rfl
        rw [e2, count_map8 m hm _ fun x hx => by
          obtain ⟨i, _, rfl⟩ := List.mem_map.1 hx
          exact sget_lt b i]
        rw [List.range_eq_range']
        exact (scount_go b m n 0).symm
      rw [e1]
      rfl
  · cases hr2
end Go.Kev
/- Kev: errors.As, at an error that is a whole number. -/
namespace Go.Kev
open Go.RowKit
open Classical
variable {c : Ctx} {P : Program} {lb : Nat} {s : S}
/-- One block is written, new ones may stand behind; all else stands. -/
structure Wrote2 (w w' : World) (k : Nat) : Prop where
  size : w.heap.size ≤ w'.heap.size
  other : ∀ j, j < w.heap.size → j ≠ k → w'.heap[j]? = w.heap[j]?
  os : w'.os = w.os
  tape : w'.tape = w.tape
  output : w'.output = w.output
structure Grew (w w' : World) : Prop where
  size : w.heap.size ≤ w'.heap.size
  other : ∀ j, j < w.heap.size → w'.heap[j]? = w.heap[j]?
  os : w'.os = w.os
  tape : w'.tape = w.tape
  output : w'.output = w.output
theorem Grew.refl (w : World) : Grew w w := ⟨Nat.le_refl _, fun _ _ => rfl, rfl, rfl, rfl⟩
theorem Grew.alloc {w w' : World} (h : Grew w w') (o : Obj) : Grew w (w'.alloc o) := by
  have hp : Pushed w' (w'.alloc o) o := ⟨rfl, rfl, rfl, rfl⟩
  have hs : (w'.alloc o).heap.size = w'.heap.size + 1 := by rw [hp.heap, Array.size_push]
  have := h.size
  exact ⟨by omega, fun j hj => (hp.old (by omega)).trans (h.other j hj), h.os, h.tape, h.output⟩
end Go.Kev
/- Kev: the program's operations, compiled. -/
namespace Go.Kev
open Go.RowKit
theorem obd {α β : Type} {x : Option α} {f : α → Option β} {b : β} (h : x.bind f = some b) : ∃ a, x = some a ∧ f a = some b := Option.bind_eq_some_iff.1 h
theorem omp {α β : Type} {x : Option α} {f : α → β} {b : β} (h : x.map f = some b) : ∃ a, x = some a ∧ f a = b := Option.map_eq_some_iff.1 h
theorem ite_some {α : Type} {c : Bool} {x : Option α} {b : α} (h : (bif c then x else none) = some b) : c = true ∧ x = some b := by
  cases c
  · cases h
  · exact ⟨rfl, h⟩
section
variable (P : Program) (nG : Nat) (ifts : List Nat × List (Nat × Nat × Nat))
def compOs : List Operand → Option (List O)
  | [] => some []
  | x :: xs => (compO nG x).bind fun y => (compOs xs).bind fun ys => some (y :: ys)
def compOO : Option Operand → Option (Option O)
  | none => some none
  | some x => (compO nG x).map some
def compParts (place : Nat → Option (Nat × Nat)) : List (Nat × Operand) → Option (List (Nat × Nat × O))
  | [] => some []
  | p :: ps => (place p.1).bind fun q => (compO nG p.2).bind fun y => (compParts place ps).bind fun qs => some ((q.1, q.2, y) :: qs)
def placeOf (t : TypeId) : Option (Nat → Option (Nat × Nat)) :=
  match P.underlying t with
  | some (.array _ e) => (P.info? e).map fun ie => fun i => some (i * ie.size, ie.size)
  | some (.struct fields) => (fields.toList.mapM (fun f => (P.info? f.type).map fun i => (f.offset, i.size))).map fun places => (places.toArray[·]?)
  | _ => none
def cBuild (t : TypeId) (ps : Array (Nat × Operand)) : Option AOp :=
  (P.info? t).bind fun it => it.zero.bind fun z => (valsC z.cells.toList).bind fun zs => (placeOf P t).bind fun place => (compParts nG place ps.toList).bind fun qs => (gaps 0 zs qs).map fun lt => .build lt.1 lt.2
def cBslice (t : TypeId) (len : Nat) (ps : Array (Nat × Operand)) : Option AOp :=
  match P.underlying t with
  | some (.slice el) => (P.info? el).bind fun it => it.zero.bind fun z => (valsC z.cells.toList).bind fun zs => (compParts nG (fun i => some (i * it.size, it.size)) ps.toList).bind fun qs =>
      bif (zs.length == it.size) && Nat.ble (len * it.size) 16777216 then (gaps 0 (List.replicate len zs).flatten qs).map fun lt => .bslice el len it.size lt.1 lt.2 else none
  | _ => none
def cAlloc (t : TypeId) : Option AOp := (P.info? t).bind fun i => i.zero.bind fun z => (valsC z.cells.toList).map fun zs => .alloc t zs
def cLoad (t : TypeId) (x : Operand) : Option AOp :=
  (aggB P t).bind fun g => (compO nG x).bind fun y => bif g then (sizeB P t).map fun n => .loadn n y else some (.load1 y)
def kindOf (t : TypeId) : Option Nat :=
  match P.underlying t with
  | some (.int _) => some 0
  | some .string => some 1
  | some .bool => some 2
  | _ => none
def kindsOf : List Field → Option (List Nat)
  | [] => some []
  | f :: fs => (kindOf P f.type).bind fun k => (kindsOf fs).map fun l => k :: l
def cEq (b : BinOp) (t : TypeId) (x1 x2 : Operand) : Option AOp :=
  (match P.underlying t with
    | some .bool => some EqT.bool
    | some (.slice _) => some .slc
    | some (.map _ _) => some .mp
    | some (.func _ _ _) => some .fn
    | some (.pointer _) => some .ptr
    | some (.struct fs) => (kindsOf P fs.toList).map EqT.st
    | some (.interface _) => some (.ifc (isC x1 || isC x2 || noMs P t) ifts.1)
    | _ => none).bind fun q => bif eqB P t q && guardB P t x1 x2 q then (compO nG x1).bind fun y1 => (compO nG x2).bind fun y2 =>
      (match b with
        | .eql => some false
        | .neq => some true
        | _ => none).map fun neg => .eq neg q y1 y2 else none
def cArith (b : BinOp) (x1 x2 : Operand) : Option AOp :=
  (compO nG x1).bind fun y1 => (compO nG x2).bind fun y2 => match b with
    | .shl => some (.shf true y1 y2)
    | .shr => some (.shf false y1 y2)
    | b => some (.bin b y1 y2)
def cBin (b : BinOp) (t : TypeId) (x1 x2 : Operand) : Option AOp :=
  match P.underlying t with
  | some (.int _) => cArith nG b x1 x2
  | some .string => cArith nG b x1 x2
  | _ => cEq P nG ifts b t x1 x2
def cConv (t u : TypeId) (x : Operand) : Option AOp :=
  (P.underlying t).bind fun d => (P.underlying u).bind fun e => (compO nG x).bind fun y => match d, e with
    | .int _, .int k => some (.convI k y)
    | .string, .string => some (.convS y)
    | .string, .slice el => bif u8B P el then some (.convSB el y) else none
    | .slice el, .string => bif u8B P el then some (.convBS y) else none
    | .int _, .string => some (.convRS y)
    | .pointer el, .unsafePointer => (sizeB P el).bind fun n => bif Nat.blt 0 n then some (.convU y) else none
    | .unsafePointer, .pointer el => (P.info? el).bind fun _ => some (.convP (ifts.2.filter fun e => liesAt P P.depth e.1 (e.2.2 / P.cellsOf e.1) e.2.1 el 1) y)
    | _, _ => none
def isIfc : TypeDesc → Bool
  | .interface _ => true
  | _ => false
def cMkif (t : TypeId) (x : Operand) : Option AOp := (P.underlying t).bind fun d => bif !isIfc d then (compO nG x).map fun y => .mkif t y else none
def cMkslice (t : TypeId) (x1 x2 : Operand) : Option AOp :=
  match P.underlying t with
  | some (.slice el) => (P.info? el).bind fun it => it.zero.bind fun z => (valsC z.cells.toList).bind fun zs =>
      bif (zs.length == it.size) && Nat.ble it.bytes 4294967296 then (compO nG x1).bind fun y1 => (compO nG x2).map fun y2 => .mkslice el it.size it.bytes zs y1 y2 else none
  | _ => none
def cSlice (t : TypeId) (x : Operand) (lo hi mx : Option Operand) : Option AOp :=
  (compO nG x).bind fun y => (compOO nG lo).bind fun l => (compOO nG hi).bind fun h => (compOO nG mx).bind fun m => bif !mx.isSome || hi.isSome then
    match P.underlying t with
    | some .string => bif mx.isSome then none else some (.sliceStr y l h)
    | some (.slice el) => (sizeB P el).map fun n => .sliceS n y l h m
    | some (.array k el) => (sizeB P el).map fun n => .sliceA k n y l h m
    | _ => none
  else none
def cFaddr (t : TypeId) (x : Operand) (i : Nat) : Option AOp :=
  match P.underlying t with
  | some (.struct fs) => (fs[i]?).bind fun f => (sizeB P f.type).bind fun n => bif Nat.blt 0 n then (compO nG x).map fun y => .faddr f.offset y else none
  | _ => none
def cFld (t : TypeId) (x : Operand) (i : Nat) : Option AOp :=
  match P.underlying t with
  | some (.struct fs) => (fs[i]?).bind fun f => (aggB P f.type).bind fun g => (sizeB P f.type).bind fun n => bif !g || Nat.blt 0 n then (compO nG x).map fun y => .fld g f.offset n y else none
  | _ => none
def cIaddr (t : TypeId) (x1 x2 : Operand) : Option AOp :=
  (compO nG x1).bind fun y1 => (compO nG x2).bind fun y2 => match P.underlying t with
    | some (.slice el) => (sizeB P el).map fun n => .iaddrS n y1 y2
    | some (.array k el) => (sizeB P el).map fun n => .iaddrA k n y1 y2
    | _ => none
def cIdx (t : TypeId) (x1 x2 : Operand) : Option AOp :=
  (compO nG x1).bind fun y1 => (compO nG x2).bind fun y2 => match P.underlying t with
    | some .string => some (.idxStr y1 y2)
    | some (.array k el) => (aggB P el).bind fun g => (sizeB P el).bind fun n => bif !g || Nat.blt 0 n then some (.idxA g k n y1 y2) else none
    | _ => none
def keyOf (t : TypeId) : Option EqT :=
  match P.underlying t with
  | some (.int _) => some .int
  | some .string => some .str
  | _ => none
def cLookup (t : TypeId) (x1 x2 : Operand) (cok : Bool) : Option AOp :=
  match P.underlying t with
  | some (.map kt vt) => (keyOf P kt).bind fun q => (P.info? vt).bind fun it => it.zero.bind fun z => (valA z).bind fun zv => (compO nG x1).bind fun y1 => (compO nG x2).map fun y2 => .lookup q cok zv y1 y2
  | _ => none
def cInsert (t : TypeId) (x1 x2 x3 : Operand) : Option AOp :=
  match P.underlying t with
  | some (.map kt _) => (keyOf P kt).bind fun q => (compO nG x1).bind fun y1 => (compO nG x2).bind fun y2 => (compO nG x3).map fun y3 => .insert q y1 y2 y3
  | _ => none
def cLen (t : TypeId) (x : Operand) : Option AOp :=
  (compO nG x).bind fun y => match P.underlying t with
    | some .string => some (.lenStr y)
    | some (.slice _) => some (.lenSlc y)
    | some (.map _ _) => some (.lenMap y)
    | _ => none
def cCap (t : TypeId) (x : Operand) : Option AOp :=
  (compO nG x).bind fun y => match P.underlying t with
    | some (.slice _) => some (.cap y)
    | _ => none
def cAppend (t u : TypeId) (x1 x2 : Operand) : Option AOp :=
  match P.underlying t with
  | some (.slice el) => bif notInt P u then (P.info? el).bind fun it => it.zero.bind fun z => bif (z.cells.size == it.size) && Nat.blt 0 it.bytes then
      (compO nG x1).bind fun y1 => (compO nG x2).map fun y2 => .append el it.size it.bytes y1 y2 else none else none
  | _ => none
def cCopy (t : TypeId) (x1 x2 : Operand) : Option AOp :=
  match P.underlying t with
  | some (.slice el) => (sizeB P el).bind fun n => (compO nG x1).bind fun y1 => (compO nG x2).map fun y2 => .copy n y1 y2
  | _ => none
def cUstr (t : TypeId) (x1 x2 : Operand) : Option AOp :=
  match P.underlying t with
  | some (.pointer ty) => bif byteB P ty then (compO nG x1).bind fun y1 => (compO nG x2).map fun y2 => .ustr ty y1 y2 else none
  | _ => none
def c1 (f : O → AOp) (x : Operand) : Option AOp := (compO nG x).map f
def c2 (f : O → O → AOp) (x1 x2 : Operand) : Option AOp := (compO nG x1).bind fun y1 => (compO nG x2).map fun y2 => f y1 y2
def cCall : Go.Call → Option AOp
  | ⟨.value f, xs, _⟩ => (compOs nG xs.toList).bind fun ys => match f with
      | .func f => some (.call f ys)
      | f => (compO nG f).map fun y => .callv y ys
  | ⟨.builtin .append, ⟨[x1, x2]⟩, ⟨[t, u]⟩⟩ => cAppend P nG t u x1 x2
  | ⟨.builtin .len, ⟨[x]⟩, ⟨[t]⟩⟩ => cLen P nG t x
  | ⟨.builtin .cap, ⟨[x]⟩, ⟨[t]⟩⟩ => cCap P nG t x
  | ⟨.builtin .copy, ⟨[x1, x2]⟩, ⟨[t, _]⟩⟩ => cCopy P nG t x1 x2
  | ⟨.builtin .max, ⟨[x1, x2]⟩, _⟩ => c2 nG .max x1 x2
  | ⟨.builtin .min, ⟨[x1, x2]⟩, _⟩ => c2 nG .min x1 x2
  | ⟨.builtin .unsafeString, ⟨[x1, x2]⟩, ⟨[t, _]⟩⟩ => cUstr P nG t x1 x2
  | ⟨.builtin .unsafeSliceData, ⟨[x]⟩, ⟨[_]⟩⟩ => c1 nG .usd x
  | _ => none
def compOp? : Op → Option AOp
  | .move x => c1 nG .mv x
  | .assign x => c1 nG .mv x
  | .pick a b d => (compO nG a).bind fun y1 => (compO nG b).bind fun y2 => (compO nG d).map fun y3 => .pick y1 y2 y3
  | .alloc t => cAlloc P t
  | .box t x => c1 nG (.box t) x
  | .build t ps => cBuild P nG t ps
  | .buildSlice t len ps => cBslice P nG t len ps
  | .load t x => cLoad P nG t x
  | .store t x1 x2 => (sizeB P t).bind fun n => c2 nG (.store n) x1 x2
  | .nilCheck x => c1 nG .nilck x
  | .binOp b t x1 x2 _ => cBin P nG ifts b t x1 x2
  | .unOp .neg _ x => c1 nG .neg x
  | .unOp .xor _ x => c1 nG .cpl x
  | .unOp .not _ x => c1 nG .not x
  | .convert t u x => cConv P nG ifts t u x
  | .makeInterface t x => cMkif P nG t x
  | .makeFunc (.func f) a b => (compOs nG a.toList).bind fun ys => (compOs nG b.toList).map fun zs => .mkfn f ys zs
  | .makeMap _ none => some .mkmap
  | .makeSlice t x1 x2 => cMkslice P nG t x1 x2
  | .slice t x lo hi mx => cSlice P nG t x lo hi mx
  | .fieldAddr t x i => cFaddr P nG t x i
  | .field t x i => cFld P nG t x i
  | .indexAddr t x1 x2 => cIaddr P nG t x1 x2
  | .index t x1 x2 => cIdx P nG t x1 x2
  | .lookup t x1 x2 cok => cLookup P nG t x1 x2 cok
  | .insert t x1 x2 x3 => cInsert P nG t x1 x2 x3
  | .mapUpdate t x1 x2 x3 => cInsert P nG t x1 x2 x3
  | .extract x i => c1 nG (.extract i) x
  | .call k => cCall P nG k
  | .range t x => match P.underlying t with
    | some .string => c1 nG .range x
    | _ => none
  | .next x true => c1 nG .next x
  | _ => none
def compOp (o : Op) : AOp := (compOp? P nG ifts o).getD .stop
end
section
variable {c : Ctx} {P : Program} {ifts : List Nat × List (Nat × Nat × Nat)} {o : Oper} {q : AOp}
theorem compOs_spec {nG : Nat} : ∀ {xs : List Operand} {ys : List O}, compOs nG xs = some ys → OsR nG xs ys
  | [], ys, h => by cases h; exact .nil
  | x :: xs, ys, h => by
    obtain ⟨y, h1, h⟩ := obd h
    obtain ⟨zs, h2, h⟩ := obd h
    cases h
    exact .cons h1 (compOs_spec h2)
theorem compOO_spec {nG : Nat} {x : Option Operand} {y : Option O} (h : compOO nG x = some y) : OO nG x y := by
  cases x with
  | none => cases h; exact .inl ⟨rfl, rfl⟩
  | some x =>
    obtain ⟨z, h1, rfl⟩ := omp h
    exact .inr ⟨x, z, rfl, rfl, h1⟩
theorem compParts_spec {nG : Nat} {place : Nat → Option (Nat × Nat)} : ∀ {ps : List (Nat × Operand)} {qs : List (Nat × Nat × O)}, compParts nG place ps = some qs → PartsR nG place ps qs
  | [], qs, h => by cases h; exact .nil
  | p :: ps, qs, h => by
    obtain ⟨q, h1, h⟩ := obd h
    obtain ⟨y, h2, h⟩ := obd h
    obtain ⟨zs, h3, h⟩ := obd h
    cases h
    exact .cons h1 h2 (compParts_spec h3)
theorem stop_sound : Sound c P o (op .stop) := fun _ _ _ _ _ _ _ _ _ h => by cases h
theorem c1_spec {nG : Nat} {f : O → AOp} {x : Operand} (h : c1 nG f x = some q) : ∃ y, compO nG x = some y ∧ q = f y := by
  obtain ⟨y, h1, rfl⟩ := omp h
  exact ⟨y, h1, rfl⟩
theorem c2_spec {nG : Nat} {f : O → O → AOp} {x1 x2 : Operand} (h : c2 nG f x1 x2 = some q) : ∃ y1 y2, compO nG x1 = some y1 ∧ compO nG x2 = some y2 ∧ q = f y1 y2 := by
  obtain ⟨y1, h1, h⟩ := obd h
  obtain ⟨y2, h2, rfl⟩ := omp h
  exact ⟨y1, y2, h1, h2, rfl⟩
theorem and2 {a b : Bool} (h : (a && b) = true) : a = true ∧ b = true := by
  cases a <;> cases b <;> first | exact ⟨rfl, rfl⟩ | cases h
theorem k_alloc {t : TypeId} (ho : o.op = .alloc t) (h : cAlloc P t = some q) : Sound c P o (op q) := by
  obtain ⟨i, h1, h⟩ := obd h
  obtain ⟨z, h2, h⟩ := obd h
  obtain ⟨zs, h3, rfl⟩ := omp h
  exact s_alloc ho h1 h2 h3
theorem k_build {t : TypeId} {ps : Array (Nat × Operand)} (ho : o.op = .build t ps) (h : cBuild P c.nG t ps = some q) : Sound c P o (op q) := by
  obtain ⟨it, h1, h⟩ := obd h
  obtain ⟨z, h2, h⟩ := obd h
  obtain ⟨zs, h3, h⟩ := obd h
  obtain ⟨place, h4, h⟩ := obd h
  obtain ⟨qs, h5, h⟩ := obd h
  obtain ⟨lt, h6, rfl⟩ := omp h
  refine s_build (place := place) ho h1 h2 h3 (fun parts => ?_) (compParts_spec h5) h6
  unfold placeOf at h4
  unfold Program.built
  split at h4
  · rename_i n e hu
    obtain ⟨ie, h7, rfl⟩ := omp h4
    simp only [h1, hu, h2, h7]
  · rename_i fs hu
    obtain ⟨places, h7, rfl⟩ := omp h4
    simp only [h1, hu, h2, h7]
  · cases h4
theorem k_bslice {t : TypeId} {len : Nat} {ps : Array (Nat × Operand)} (ho : o.op = .buildSlice t len ps) (h : cBslice P c.nG t len ps = some q) : Sound c P o (op q) := by
  unfold cBslice at h
  split at h
  · rename_i el hu
    obtain ⟨it, h1, h⟩ := obd h
    obtain ⟨z, h2, h⟩ := obd h
    obtain ⟨zs, h3, h⟩ := obd h
    obtain ⟨qs, h5, h⟩ := obd h
    obtain ⟨hb, h⟩ := ite_some h
    obtain ⟨lt, h6, rfl⟩ := omp h
    obtain ⟨b1, b2⟩ := and2 hb
    rw [Nat.ble_eq] at b2
    exact s_bslice ho hu h1 h2 h3 (by simpa using b1) b2 (compParts_spec h5) h6
  · cases h
theorem k_load {t : TypeId} {x : Operand} (ho : o.op = .load t x) (h : cLoad P c.nG t x = some q) : Sound c P o (op q) := by
  obtain ⟨g, h1, h⟩ := obd h
  obtain ⟨y, h2, h⟩ := obd h
  cases g with
  | true =>
    obtain ⟨n, h3, rfl⟩ := omp (show (sizeB P t).map (fun n => AOp.loadn n y) = some q from h)
    exact s_loadn ho h1 h3 h2
  | false =>
    cases h
    exact s_load1 ho h1 h2
theorem k_eq {b : BinOp} {t u : TypeId} {x1 x2 : Operand} (ho : o.op = .binOp b t x1 x2 u) (h : cEq P c.nG ifts b t x1 x2 = some q) : Sound c P o (op q) := by
  obtain ⟨e, _, h⟩ := obd h
  obtain ⟨hb, h⟩ := ite_some h
  obtain ⟨b1, b2⟩ := and2 hb
  obtain ⟨y1, h1, h⟩ := obd h
  obtain ⟨y2, h2, h⟩ := obd h
  obtain ⟨neg, h3, rfl⟩ := omp h
  have hn : b = if neg then .neq else .eql := by
    split at h3
    · cases h3; rfl
    · cases h3; rfl
    · cases h3
  exact s_eq ho hn b1 b2 h1 h2
theorem k_arith {b : BinOp} {t u : TypeId} {x1 x2 : Operand} (ho : o.op = .binOp b t x1 x2 u) (h : cArith c.nG b x1 x2 = some q) : Sound c P o (op q) := by
  obtain ⟨y1, h1, h⟩ := obd h
  obtain ⟨y2, h2, h⟩ := obd h
  split at h
  · cases h; exact s_shf (left := true) ho rfl h1 h2
  · cases h; exact s_shf (left := false) ho rfl h1 h2
  · cases h; exact s_bin ho h1 h2
theorem k_bin {b : BinOp} {t u : TypeId} {x1 x2 : Operand} (ho : o.op = .binOp b t x1 x2 u) (h : cBin P c.nG ifts b t x1 x2 = some q) : Sound c P o (op q) := by
  unfold cBin at h
  split at h
  · exact k_arith ho h
  · exact k_arith ho h
  · exact k_eq ho h
theorem blt0 {n : Nat} (h : Nat.blt 0 n = true) : ∃ m, n = m + 1 := by
  cases n with
  | zero => cases h
  | succ n => exact ⟨n, rfl⟩
theorem k_conv {t u : TypeId} {x : Operand} (ho : o.op = .convert t u x) (h : cConv P c.nG ifts t u x = some q) : Sound c P o (op q) := by
  obtain ⟨d, h1, h⟩ := obd h
  obtain ⟨e, h2, h⟩ := obd h
  obtain ⟨y, h3, h⟩ := obd h
  split at h
  · cases h; exact s_convI ho ⟨_, h1⟩ h2 h3
  · cases h; exact s_convSS ho h1 h2 h3
  · obtain ⟨hb, h⟩ := ite_some h
    cases h; exact s_convSB ho h1 h2 (u8B_spec hb) h3
  · obtain ⟨hb, h⟩ := ite_some h
    cases h; exact s_convBS ho h1 (u8B_spec hb) h2 h3
  · cases h; exact s_convRS ho h1 h2 h3
  · obtain ⟨n, h4, h⟩ := obd h
    obtain ⟨hb, h⟩ := ite_some h
    obtain ⟨m, rfl⟩ := blt0 hb
    cases h
    exact s_convU ho h1 h2 h4 h3
  · obtain ⟨j, h4, h⟩ := obd h
    cases h
    exact s_convP ho h1 h2 h4 (fun e he => (List.mem_filter.1 he).2) h3
  · cases h
theorem k_mkif {t : TypeId} {x : Operand} (ho : o.op = .makeInterface t x) (h : cMkif P c.nG t x = some q) : Sound c P o (op q) := by
  obtain ⟨d, h1, h⟩ := obd h
  obtain ⟨hb, h⟩ := ite_some h
  obtain ⟨y, h2, rfl⟩ := omp h
  exact s_mkif ho h1 (fun ms e => by subst e; cases hb) h2
theorem k_mkslice {t : TypeId} {x1 x2 : Operand} (ho : o.op = .makeSlice t x1 x2) (h : cMkslice P c.nG t x1 x2 = some q) : Sound c P o (op q) := by
  unfold cMkslice at h
  split at h
  · rename_i el hu
    obtain ⟨it, h1, h⟩ := obd h
    obtain ⟨z, h2, h⟩ := obd h
    obtain ⟨zs, h3, h⟩ := obd h
    obtain ⟨hb, h⟩ := ite_some h
    obtain ⟨y1, h4, h⟩ := obd h
    obtain ⟨y2, h5, rfl⟩ := omp h
    obtain ⟨b1, b2⟩ := and2 hb
    rw [Nat.ble_eq] at b2
    exact s_mkslice ho hu h1 h2 h3 (by simpa using b1) b2 h4 h5
  · cases h
theorem k_slice {t : TypeId} {x : Operand} {lo hi mx : Option Operand} (ho : o.op = .slice t x lo hi mx) (h : cSlice P c.nG t x lo hi mx = some q) : Sound c P o (op q) := by
  obtain ⟨y, h1, h⟩ := obd h
  obtain ⟨l, h2, h⟩ := obd h
  obtain ⟨hh, h3, h⟩ := obd h
  obtain ⟨m, h4, h⟩ := obd h
  obtain ⟨hb, h⟩ := ite_some h
  have hm : mx.isSome = true → hi.isSome = true := by
    intro e
    rw [e] at hb
    exact hb
  split at h
  · rename_i hu
    cases mx with
    | some _ => cases h
    | none => cases h; exact s_sliceStr ho hu h1 (compOO_spec h2) (compOO_spec h3)
  · rename_i el hu
    obtain ⟨n, h5, rfl⟩ := omp h
    exact s_sliceS ho hu h5 h1 (compOO_spec h2) (compOO_spec h3) (compOO_spec h4) hm
  · rename_i k el hu
    obtain ⟨n, h5, rfl⟩ := omp h
    exact s_sliceA ho hu h5 h1 (compOO_spec h2) (compOO_spec h3) (compOO_spec h4) hm
  · cases h
theorem k_faddr {t : TypeId} {x : Operand} {i : Nat} (ho : o.op = .fieldAddr t x i) (h : cFaddr P c.nG t x i = some q) : Sound c P o (op q) := by
  unfold cFaddr at h
  split at h
  · rename_i fs hu
    obtain ⟨f, h1, h⟩ := obd h
    obtain ⟨n, h2, h⟩ := obd h
    obtain ⟨hb, h⟩ := ite_some h
    obtain ⟨y, h3, rfl⟩ := omp h
    obtain ⟨m, rfl⟩ := blt0 hb
    exact s_faddr ho hu h1 h2 h3
  · cases h
theorem hz_of {g : Bool} {n : Nat} (h : (!g || Nat.blt 0 n) = true) : g = true → n ≠ 0 := by
  rintro rfl
  obtain ⟨m, rfl⟩ := blt0 (n := n) h
  exact Nat.succ_ne_zero m
theorem k_fld {t : TypeId} {x : Operand} {i : Nat} (ho : o.op = .field t x i) (h : cFld P c.nG t x i = some q) : Sound c P o (op q) := by
  unfold cFld at h
  split at h
  · rename_i fs hu
    obtain ⟨f, h1, h⟩ := obd h
    obtain ⟨g, h2, h⟩ := obd h
    obtain ⟨n, h3, h⟩ := obd h
    obtain ⟨hb, h⟩ := ite_some h
    obtain ⟨y, h4, rfl⟩ := omp h
    exact s_fld ho hu h1 h2 h3 (hz_of hb) h4
  · cases h
theorem k_iaddr {t : TypeId} {x1 x2 : Operand} (ho : o.op = .indexAddr t x1 x2) (h : cIaddr P c.nG t x1 x2 = some q) : Sound c P o (op q) := by
  obtain ⟨y1, h1, h⟩ := obd h
  obtain ⟨y2, h2, h⟩ := obd h
  split at h
  · rename_i el hu
    obtain ⟨n, h3, rfl⟩ := omp h
    exact s_iaddrS ho hu h3 h1 h2
  · rename_i k el hu
    obtain ⟨n, h3, rfl⟩ := omp h
    exact s_iaddrA ho hu h3 h1 h2
  · cases h
theorem k_idx {t : TypeId} {x1 x2 : Operand} (ho : o.op = .index t x1 x2) (h : cIdx P c.nG t x1 x2 = some q) : Sound c P o (op q) := by
  obtain ⟨y1, h1, h⟩ := obd h
  obtain ⟨y2, h2, h⟩ := obd h
  split at h
  · rename_i hu
    cases h
    exact s_idxStr ho hu h1 h2
  · rename_i k el hu
    obtain ⟨g, h3, h⟩ := obd h
    obtain ⟨n, h4, h⟩ := obd h
    obtain ⟨hb, h⟩ := ite_some h
    cases h
    exact s_idxA ho hu h3 h4 (hz_of hb) h1 h2
  · cases h
theorem keyOf_spec {t : TypeId} {e : EqT} (h : keyOf P t = some e) : keyB P t e = true := by
  unfold keyOf at h
  split at h
  · rename_i k hk
    cases h
    simp only [keyB, hk]
  · rename_i hk
    cases h
    simp only [keyB, hk]
  · cases h
theorem k_lookup {t : TypeId} {x1 x2 : Operand} {cok : Bool} (ho : o.op = .lookup t x1 x2 cok) (h : cLookup P c.nG t x1 x2 cok = some q) : Sound c P o (op q) := by
  unfold cLookup at h
  split at h
  · rename_i kt vt hu
    obtain ⟨e, h1, h⟩ := obd h
    obtain ⟨it, h2, h⟩ := obd h
    obtain ⟨z, h3, h⟩ := obd h
    obtain ⟨zv, h4, h⟩ := obd h
    obtain ⟨y1, h5, h⟩ := obd h
    obtain ⟨y2, h6, rfl⟩ := omp h
    exact s_lookup ho hu (keyOf_spec h1) h2 h3 h4 h5 h6
  · cases h
theorem k_insert {t : TypeId} {x1 x2 x3 : Operand} (ho : o.op = .insert t x1 x2 x3 ∨ o.op = .mapUpdate t x1 x2 x3) (h : cInsert P c.nG t x1 x2 x3 = some q) : Sound c P o (op q) := by
  unfold cInsert at h
  split at h
  · rename_i kt vt hu
    obtain ⟨e, h1, h⟩ := obd h
    obtain ⟨y1, h5, h⟩ := obd h
    obtain ⟨y2, h6, h⟩ := obd h
    obtain ⟨y3, h7, rfl⟩ := omp h
    exact s_insert ho hu (keyOf_spec h1) h5 h6 h7
  · cases h
theorem k_len {t : TypeId} {x : Operand} (ho : o.op = .call ⟨.builtin .len, #[x], #[t]⟩) (h : cLen P c.nG t x = some q) : Sound c P o (op q) := by
  obtain ⟨y, h1, h⟩ := obd h
  split at h
  · rename_i hu; cases h; exact s_lenStr ho hu h1
  · rename_i hu; cases h; exact s_lenSlc ho hu h1
  · rename_i hu; cases h; exact s_lenMap ho hu h1
  · cases h
theorem k_cap {t : TypeId} {x : Operand} (ho : o.op = .call ⟨.builtin .cap, #[x], #[t]⟩) (h : cCap P c.nG t x = some q) : Sound c P o (op q) := by
  obtain ⟨y, h1, h⟩ := obd h
  split at h
  · rename_i hu; cases h; exact s_cap ho hu h1
  · cases h
theorem k_append {t u : TypeId} {x1 x2 : Operand} (ho : o.op = .call ⟨.builtin .append, #[x1, x2], #[t, u]⟩) (h : cAppend P c.nG t u x1 x2 = some q) : Sound c P o (op q) := by
  unfold cAppend at h
  split at h
  · rename_i el hu
    obtain ⟨hn, h⟩ := ite_some h
    obtain ⟨it, h1, h⟩ := obd h
    obtain ⟨z, h2, h⟩ := obd h
    obtain ⟨hb, h⟩ := ite_some h
    obtain ⟨b1, b2⟩ := and2 hb
    obtain ⟨y1, h3, h⟩ := obd h
    obtain ⟨y2, h4, rfl⟩ := omp h
    obtain ⟨m, hm⟩ := blt0 b2
    exact s_append ho hu hn h1 h2 (by simpa using b1) (by omega) h3 h4
  · cases h
theorem k_copy {t u : TypeId} {x1 x2 : Operand} (ho : o.op = .call ⟨.builtin .copy, #[x1, x2], #[t, u]⟩) (h : cCopy P c.nG t x1 x2 = some q) : Sound c P o (op q) := by
  unfold cCopy at h
  split at h
  · rename_i el hu
    obtain ⟨n, h1, h⟩ := obd h
    obtain ⟨y1, h3, h⟩ := obd h
    obtain ⟨y2, h4, rfl⟩ := omp h
    exact s_copy ho hu h1 h3 h4
  · cases h
theorem k_ustr {t u : TypeId} {x1 x2 : Operand} (ho : o.op = .call ⟨.builtin .unsafeString, #[x1, x2], #[t, u]⟩) (h : cUstr P c.nG t x1 x2 = some q) : Sound c P o (op q) := by
  unfold cUstr at h
  split at h
  · rename_i ty hu
    obtain ⟨hb, h⟩ := ite_some h
    obtain ⟨y1, h3, h⟩ := obd h
    obtain ⟨y2, h4, rfl⟩ := omp h
    exact s_ustr ho hu hb h3 h4
  · cases h
theorem k_call {k : Go.Call} (ho : o.op = .call k) (h : cCall P c.nG k = some q) : Sound c P o (op q) := by
  unfold cCall at h
  split at h
  · obtain ⟨ys, h1, h⟩ := obd h
    split at h
    · cases h; exact s_call ho (compOs_spec h1)
    · obtain ⟨y, h2, rfl⟩ := omp h
      exact s_callv ho h2 (compOs_spec h1)
  · exact k_append ho h
  · exact k_len ho h
  · exact k_cap ho h
  · exact k_copy ho h
  · obtain ⟨y1, y2, h1, h2, rfl⟩ := c2_spec h; exact s_max ho h1 h2
  · obtain ⟨y1, y2, h1, h2, rfl⟩ := c2_spec h; exact s_min ho h1 h2
  · exact k_ustr ho h
  · obtain ⟨y, h1, rfl⟩ := c1_spec h; exact s_usd (el := 0) ho h1
  · cases h
theorem compOp?_sound (h : compOp? P c.nG ifts o.op = some q) : Sound c P o (op q) := by
  unfold compOp? at h
  split at h <;> rename_i ho
  · obtain ⟨y, h1, rfl⟩ := c1_spec h; exact s_mv (.inl ho) h1
  · obtain ⟨y, h1, rfl⟩ := c1_spec h; exact s_mv (.inr ho) h1
  · obtain ⟨y1, h1, h⟩ := obd h
    obtain ⟨y2, h2, h⟩ := obd h
    obtain ⟨y3, h3, rfl⟩ := omp h
    exact s_pick ho h1 h2 h3
  · exact k_alloc ho h
  · obtain ⟨y, h1, rfl⟩ := c1_spec h; exact s_box ho h1
  · exact k_build ho h
  · exact k_bslice ho h
  · exact k_load ho h
  · obtain ⟨n, h0, h⟩ := obd h
    obtain ⟨y1, y2, h1, h2, rfl⟩ := c2_spec h
    exact s_store ho h0 h1 h2
  · obtain ⟨y, h1, rfl⟩ := c1_spec h; exact s_nilck ho h1
  · exact k_bin ho h
  · obtain ⟨y, h1, rfl⟩ := c1_spec h; exact s_neg ho h1
  · obtain ⟨y, h1, rfl⟩ := c1_spec h; exact s_cpl ho h1
  · obtain ⟨y, h1, rfl⟩ := c1_spec h; exact s_not ho h1
  · exact k_conv ho h
  · exact k_mkif ho h
  · obtain ⟨ys, h1, h⟩ := obd h
    obtain ⟨zs, h2, rfl⟩ := omp h
    exact s_mkfn ho (compOs_spec h1) (compOs_spec h2)
  · cases h; exact s_mkmap ho rfl
  · exact k_mkslice ho h
  · exact k_slice ho h
  · exact k_faddr ho h
  · exact k_fld ho h
  · exact k_iaddr ho h
  · exact k_idx ho h
  · exact k_lookup ho h
  · exact k_insert (.inl ho) h
  · exact k_insert (.inr ho) h
  · obtain ⟨y, h1, rfl⟩ := c1_spec h; exact s_extract ho h1
  · exact k_call ho h
  · split at h
    · rename_i hu
      obtain ⟨y, h1, rfl⟩ := c1_spec h
      exact s_range ho hu h1
    · cases h
  · obtain ⟨y, h1, rfl⟩ := c1_spec h
    exact s_next (ty := 0) ho h1
  · cases h
theorem compOp_sound (o : Oper) : Sound c P o (op (compOp P c.nG ifts o.op)) := by
  unfold compOp
  cases h : compOp? P c.nG ifts o.op with
  | none => exact stop_sound
  | some q => exact compOp?_sound h
end
end Go.Kev
/- Kev: the program's functions, compiled. -/
namespace Go.Kev
open Go.RowKit
theorem good_scope {c : Ctx} {P : Program} {n : Nat} {x : Code} {p : AC} (hx : Good c P n x (sem p)) : Good c P n (.scope x) (sem p) := by
  intro call f lb env s r hc hl hf h
  obtain ⟨l, L⟩ := hx call f lb env s r hc hl hf h
  refine ⟨l, L.weak fun e w Q hle hR hact a Q0 hE hk => wp_scope_straight (hact a _ hE fun e' w' a' q' le' hE' => ?_)⟩
  have := hk e' w' a' q' le' hE'
  revert this
  cases r.1 <;> exact fun x => x
section
variable (P : Program) (nG : Nat) (ifts : List Nat × List (Nat × Nat × Nat)) (n : Nat)
def compOper (os : Array Oper) (o : Oper) : Option AOper :=
  match o.guard with
  | none => match o.dst with
    | none => some (.n (compOp P nG ifts o.op))
    | some t => bif Nat.blt t n then some (.p (toP t) (compOp P nG ifts o.op)) else none
  | some (j, b) => ((os[j]?).bind (·.dst)).bind fun tj => bif Nat.blt tj n then
      match o.dst with
      | none => some (.gn (compOp P nG ifts o.op) (toP tj) b)
      | some t => bif Nat.blt t n then some (.g (toP t) (compOp P nG ifts o.op) (toP tj) b) else none
      else none
def compRegs (os : Array Oper) : List Oper → Option (List AOper)
  | [] => some []
  | o :: l => (compOper P nG ifts n os o).bind fun q => (compRegs os l).bind fun qs => some (q :: qs)
/-- the mask of an operation: what it waits for -/
def maskE (acc : List Nat) (m : Nat) : List Edge → Nat
  | [] => m
  | e :: l => maskE acc (bif Region.binds .any e then Nat.lor m (Nat.lor (Nat.pow 2 e.on) (acc.getD e.on 0)) else m) l
def masks : List Oper → List Nat → List Nat
  | [], acc => acc
  | o :: l, acc => masks l (acc ++ [maskE acc 0 o.after.toList])
def compDs (os : Array Oper) (ms : List Nat) : Nat → List Oper → Option (List (AOper × Nat))
  | _, [] => some []
  | i, o :: l => (compOper P nG ifts n os o).bind fun q => (compDs os ms (i + 1) l).bind fun qs => some ((q, ms.getD i 0) :: qs)
def dstIs (t : Nat) (o : Oper) : Bool :=
  match o.dst with
  | some u => Nat.beq u t
  | none => false
/-- no place is written twice -/
def onceB : List Oper → Bool
  | [] => true
  | o :: l => (match o.dst with
    | some t => l.all fun q => !dstIs t q
    | none => true) && onceB l
/-- from the j-th on: does each operation that writes t stand in order with the k-th? -/
def seenB (t k : Nat) (ms : List Nat) : Nat → List Oper → Bool
  | _, [] => true
  | j, o :: l => (!dstIs t o || (Nat.blt j k && Nat.testBit (ms.getD k 0) j) || (Nat.blt k j && Nat.testBit (ms.getD j 0) k)) && seenB t k ms (j + 1) l
def lookB (os : Array Oper) (ms : List Nat) : Nat → List Oper → Bool
  | _, [] => true
  | k, o :: l => (o.looksAt os).all (fun t => seenB t k ms 0 os.toList) && (o.after.toList.all (fun e => !Region.binds .any e || Nat.blt e.on k)) && lookB os ms (k + 1) l
def compC (g : Bool) : Code → AC
  | .skip => .skip
  | .label _ => .skip
  | .region _ os false => match compRegs P nG ifts n os os.toList with
    | some qs => .reg qs
    | none => .stop
  | .region _ os true => bif onceB os.toList && lookB os (masks os.toList []) 0 os.toList then
      match compDs P nG ifts n os (masks os.toList []) 0 os.toList with
      | some qs => .dreg qs
      | none => .stop
      else .stop
  | .seq a b => .seq (compC g a) (compC g b)
  | .cond t a b => match compO nG t with
    | some z => .cond z (compC g a) (compC g b)
    | none => .stop
  | .block id x => .block id (compC g x)
  | .loop x => .loop (bif g then .seq (compC g x) .gc else compC g x)
  | .exit id => .exit id
  | .ret => .ret
  | .scope x => compC g x
  | _ => .stop
end
section
variable {c : Ctx} {P : Program} {ifts : List Nat × List (Nat × Nat × Nat)} {n : Nat} {os : Array Oper}
theorem blt_lt {a b : Nat} (h : Nat.blt a b = true) : a < b := by
  have : Nat.ble (a + 1) b = true := h
  rw [Nat.ble_eq] at this
  exact this
theorem compOper_spec {o : Oper} {q : AOper} (h : compOper P c.nG ifts n os o = some q) : FitsO c P n os o q ∧ ∀ t, o.dst = some t → t < n := by
  unfold compOper at h
  split at h
  · rename_i hg
    split at h
    · rename_i hd
      cases h
      exact ⟨⟨hd, hg, compOp_sound o⟩, fun t ht => by rw [hd] at ht; cases ht⟩
    · rename_i t hd
      obtain ⟨hb, h⟩ := ite_some h
      cases h
      exact ⟨⟨t, hd, rfl, blt_lt hb, hg, compOp_sound o⟩, fun u hu => by rw [hd] at hu; cases hu; exact blt_lt hb⟩
  · rename_i j b hg
    obtain ⟨tj, h1, h⟩ := obd h
    obtain ⟨hb, h⟩ := ite_some h
    split at h
    · rename_i hd
      cases h
      exact ⟨⟨j, tj, hd, hg, h1, rfl, blt_lt hb, compOp_sound o⟩, fun t ht => by rw [hd] at ht; cases ht⟩
    · rename_i t hd
      obtain ⟨hb2, h⟩ := ite_some h
      cases h
      exact ⟨⟨t, j, tj, hd, rfl, blt_lt hb2, hg, h1, rfl, blt_lt hb, compOp_sound o⟩, fun u hu => by rw [hd] at hu; cases hu; exact blt_lt hb2⟩
theorem compRegs_spec : ∀ {l : List Oper} {qs : List AOper} {i : Nat}, compRegs P c.nG ifts n os l = some qs → (∀ k o, l[k]? = some o → os[i + k]? = some o) → Fits c P n os (List.range' i l.length) qs
  | [], qs, i, h, _ => by cases h; exact .nil
  | o :: l, qs, i, h, hl => by
    obtain ⟨q, h1, h⟩ := obd h
    obtain ⟨rs, h2, h⟩ := obd h
    cases h
    rw [List.length_cons, List.range'_succ]
    exact .cons (hl 0 o rfl) (compOper_spec h1).1 (compRegs_spec h2 fun k p hp => by
      rw [show i + 1 + k = i + (k + 1) by omega]
      exact hl (k + 1) p hp)
theorem compDs_spec {ms : List Nat} : ∀ {l : List Oper} {qs : List (AOper × Nat)} {i : Nat}, compDs P c.nG ifts n os ms i l = some qs → (∀ k o, l[k]? = some o → os[i + k]? = some o) → os.size = i + l.length →
    FitsD c P n os i qs ∧ (∀ k, k < l.length → ((qs[k]?).map (·.2)).getD 0 = ms.getD (i + k) 0) ∧ (∀ (k : Nat) (o : Oper) (t : Nat), l[k]? = some o → o.dst = some t → t < n)
  | [], qs, i, h, _, hs => by
    cases h
    exact ⟨.nil (by simpa using hs), fun k hk => by simp at hk, fun k o t h => by simp at h⟩
  | o :: l, qs, i, h, hl, hs => by
    obtain ⟨q, h1, h⟩ := obd h
    obtain ⟨rs, h2, h⟩ := obd h
    cases h
    obtain ⟨g1, g2, g3⟩ := compDs_spec (l := l) (i := i + 1) h2 (fun k p hp => by
      rw [show i + 1 + k = i + (k + 1) by omega]
      exact hl (k + 1) p hp) (by simp only [List.length_cons] at hs; omega)
    refine ⟨.cons (hl 0 o rfl) (compOper_spec h1).1 g1, fun k hk => ?_, fun k p t hk hd => ?_⟩
    · cases k with
      | zero => rfl
      | succ k =>
        have := g2 k (by simp only [List.length_cons] at hk; omega)
        rw [show i + (k + 1) = i + 1 + k by omega, ← this]
        rfl
    · cases k with
      | zero => cases hk; exact (compOper_spec h1).2 t hd
      | succ k => exact g3 k p t hk hd
theorem onceB_spec : ∀ {l : List Oper}, onceB l = true → ∀ (j k : Nat) (oj ok : Oper) (t : Nat), l[j]? = some oj → l[k]? = some ok → oj.dst = some t → ok.dst = some t → j = k
  | [], _, j, k, oj, ok, t, h1, _, _, _ => by simp at h1
  | o :: l, h, j, k, oj, ok, t, h1, h2, d1, d2 => by
    unfold onceB at h
    obtain ⟨b1, b2⟩ := and2 h
    have first : o.dst = some t → ∀ (k : Nat) (ok : Oper), l[k]? = some ok → ok.dst = some t → False := by
      intro hd k ok hk hd2
      rw [hd] at b1
      have b1 : (l.all fun q => !dstIs t q) = true := b1
      rw [List.all_eq_true] at b1
      have := b1 ok (List.mem_of_getElem? hk)
      unfold dstIs at this
      rw [hd2] at this
      simp at this
    cases j with
    | zero =>
      cases k with
      | zero => rfl
      | succ k => cases h1; exact (first d1 k ok h2 d2).elim
    | succ j =>
      cases k with
      | zero => cases h2; exact (first d2 j oj h1 d1).elim
      | succ k => rw [onceB_spec b2 j k oj ok t h1 h2 d1 d2]
theorem or2 {a b : Bool} (h : (a || b) = true) : a = true ∨ b = true := by
  cases a <;> cases b <;> first | exact .inl rfl | exact .inr rfl | cases h
theorem seenB_spec {t k : Nat} {ms : List Nat} : ∀ {l : List Oper} {i : Nat}, seenB t k ms i l = true → ∀ (j : Nat) (o : Oper), l[j]? = some o → o.dst = some t →
    (i + j < k ∧ (ms.getD k 0).testBit (i + j) = true) ∨ (k < i + j ∧ (ms.getD (i + j) 0).testBit k = true)
  | [], i, _, j, o, h, _ => by simp at h
  | p :: l, i, h, j, o, hj, hd => by
    unfold seenB at h
    obtain ⟨b1, b2⟩ := and2 h
    cases j with
    | zero =>
      cases hj
      have : dstIs t p = true := by unfold dstIs; rw [hd]; simp
      rw [this] at b1
      rcases or2 b1 with b1 | b1
      · rcases or2 b1 with b1 | b1
        · cases b1
        · obtain ⟨b3, b4⟩ := and2 b1
          exact .inl ⟨blt_lt b3, b4⟩
      · obtain ⟨b3, b4⟩ := and2 b1
        exact .inr ⟨blt_lt b3, b4⟩
    | succ j =>
      have := seenB_spec b2 j o hj hd
      rw [show i + (j + 1) = i + 1 + j by omega]
      exact this
theorem lookB_spec {ms : List Nat} : ∀ {l : List Oper} {i : Nat}, lookB os ms i l = true → ∀ k o, l[k]? = some o →
    (∀ t ∈ o.looksAt os, seenB t (i + k) ms 0 os.toList = true) ∧ ∀ e ∈ o.after, Region.binds .any e = true → e.on < i + k
  | [], i, _, k, o, h => by simp at h
  | p :: l, i, h, k, o, hk => by
    unfold lookB at h
    obtain ⟨b1, b3⟩ := and2 h
    obtain ⟨b1, b2⟩ := and2 b1
    cases k with
    | zero =>
      cases hk
      refine ⟨fun t ht => List.all_eq_true.1 b1 t ht, fun e he hb => ?_⟩
      have := List.all_eq_true.1 b2 e (by simpa using he)
      rw [hb] at this
      exact blt_lt (show Nat.blt e.on i = true from this)
    | succ k =>
      have := lookB_spec b3 k o hk
      rw [show i + (k + 1) = i + 1 + k by omega]
      exact this
theorem testBit_pow {a j : Nat} (h : (Nat.pow 2 a).testBit j = true) : j = a := by
  have h : (2 ^ a).testBit j = true := h
  rw [Nat.testBit_two_pow] at h
  have : a = j := by simpa using h
  exact this.symm
theorem maskE_spec {acc : List Nat} : ∀ {l : List Edge} {m j : Nat}, (maskE acc m l).testBit j = true → m.testBit j = true ∨ ∃ e ∈ l, Region.binds .any e = true ∧ (j = e.on ∨ (acc.getD e.on 0).testBit j = true)
  | [], m, j, h => .inl h
  | e :: l, m, j, h => by
    unfold maskE at h
    rcases maskE_spec h with h | ⟨e', he, hb⟩
    · cases hb : Region.binds .any e with
      | false => rw [hb] at h; exact .inl h
      | true =>
        rw [hb] at h
        have h : (m ||| (Nat.pow 2 e.on ||| acc.getD e.on 0)).testBit j = true := h
        rw [Nat.testBit_or, Nat.testBit_or] at h
        simp only [Bool.or_eq_true] at h
        rcases h with h | h | h
        · exact .inl h
        · exact .inr ⟨e, List.mem_cons_self .., hb, .inl (testBit_pow h)⟩
        · exact .inr ⟨e, List.mem_cons_self .., hb, .inr h⟩
    · exact .inr ⟨e', List.mem_cons_of_mem _ he, hb⟩
theorem masks_spec : ∀ {l : List Oper} {acc : List Nat}, (∀ k o, l[k]? = some o → os[acc.length + k]? = some o) → (∀ k j, (acc.getD k 0).testBit j = true → Bef os k j) →
    ∀ k j, ((masks l acc).getD k 0).testBit j = true → Bef os k j
  | [], acc, _, h => h
  | o :: l, acc, hl, h => by
    unfold masks
    refine masks_spec (l := l) (fun k p hp => ?_) fun k j hk => ?_
    · have := hl (k + 1) p hp
      rw [List.length_append, List.length_singleton, show acc.length + 1 + k = acc.length + (k + 1) by omega]
      exact this
    · rcases Nat.lt_trichotomy k acc.length with hlt | heq | hgt
      · rw [List.getD_eq_getElem?_getD, List.getElem?_append_left hlt, ← List.getD_eq_getElem?_getD] at hk
        exact h k j hk
      · subst heq
        rw [List.getD_eq_getElem?_getD, List.getElem?_append_right (Nat.le_refl _), Nat.sub_self] at hk
        have hk : (maskE acc 0 o.after.toList).testBit j = true := hk
        have ho := hl 0 o rfl
        rcases maskE_spec hk with hk | ⟨e, he, hb, h2⟩
        · simp at hk
        · have one : Bef os acc.length e.on := .one ho (by simpa using he) hb
          rcases h2 with rfl | h2
          · exact one
          · exact .more one (h _ _ h2)
      · rw [List.getD_eq_getElem?_getD, List.getElem?_append_right (by omega)] at hk
        rw [List.getElem?_eq_none (by simp; omega)] at hk
        simp at hk
theorem comp_dreg (hm : P.follows .mixedOrders = true) {id : Nat} {qs : List (AOper × Nat)} (h1 : (onceB os.toList && lookB os (masks os.toList []) 0 os.toList) = true)
    (h2 : compDs P c.nG ifts n os (masks os.toList []) 0 os.toList = some qs) : Good c P n (.region id os true) (sem (.dreg qs)) := by
  obtain ⟨b1, b2⟩ := and2 h1
  have hat : ∀ k o, os.toList[k]? = some o → os[0 + k]? = some o := fun k o h => by rw [Nat.zero_add]; rw [Array.getElem?_toList] at h; exact h
  have hta : ∀ k o, os[k]? = some o → os.toList[k]? = some o := fun k o h => by rw [Array.getElem?_toList]; exact h
  obtain ⟨g1, g2, g3⟩ := compDs_spec (c := c) h2 hat (by simp)
  refine good_dreg hm g1 ⟨?_, ?_, ?_, ?_, ?_⟩
  · exact fun j k oj ok t a1 a2 a3 a4 => onceB_spec b1 j k oj ok t (hta _ _ a1) (hta _ _ a2) a3 a4
  · intro k j ok oj t a1 a2 a3 a4
    have hk : k < os.size := (Array.getElem?_eq_some_iff.1 a1).1
    have hj : j < os.size := (Array.getElem?_eq_some_iff.1 a3).1
    rw [g2 k (by simpa using hk), g2 j (by simpa using hj)]
    have := (lookB_spec b2 k ok (hta _ _ a1)).1 t a2
    have := seenB_spec this j oj (hta _ _ a3) a4
    simp only [Nat.zero_add] at this ⊢
    exact this
  · intro k j hk hb
    rw [g2 k (by simpa using hk), Nat.zero_add] at hb
    exact masks_spec (os := os) (l := os.toList) (acc := []) (fun k o h => by simpa using h) (fun k j h => by simp at h) k j hb
  · intro k o e a1 a2 a3
    have := (lookB_spec b2 k o (hta _ _ a1)).2 e a2 a3
    omega
  · exact fun k o t a1 a2 => g3 k o t (hta _ _ a1) a2
theorem compC_good (hm : P.follows .mixedOrders = true) (g : Bool) : ∀ x : Code, Good c P n x (sem (compC P c.nG ifts n g x))
  | .skip => good_skip
  | .label l => good_label l
  | .region id os false => by
    unfold compC
    split
    · rename_i qs h
      refine good_reg ?_
      have := compRegs_spec (c := c) (i := 0) h (fun k o hk => by rw [Nat.zero_add]; simpa using hk)
      rw [List.range_eq_range']
      simpa using this
    · exact good_stop _
  | .region id os true => by
    unfold compC
    cases hb : (onceB os.toList && lookB os (masks os.toList []) 0 os.toList) with
    | false => exact good_stop _
    | true =>
      show Good c P n _ (sem (match compDs P c.nG ifts n os (masks os.toList []) 0 os.toList with | some qs => AC.dreg qs | none => .stop))
      split
      · rename_i qs h
        exact comp_dreg hm hb h
      · exact good_stop _
  | .seq a b => good_seq (compC_good hm g a) (compC_good hm g b)
  | .cond t a b => by
    unfold compC
    split
    · rename_i z hz
      exact good_cond hz (compC_good hm g a) (compC_good hm g b)
    · exact good_stop _
  | .block id x => good_block (compC_good hm g x)
  | .loop x => by
    unfold compC
    cases g with
    | true => exact good_loop (good_gc (compC_good hm true x))
    | false => exact good_loop (compC_good hm false x)
  | .exit id => good_exit id
  | .ret => good_ret
  | .scope x => good_scope (compC_good hm g x)
  | .rangeFunc .. => good_stop _
  | .goto _ => good_stop _
  | .refuse _ => good_stop _
end
section
variable (P : Program) (nG : Nat) (ifts : List Nat × List (Nat × Nat × Nat))
def compR : List ResultVar → Option (List RV)
  | [] => some []
  | .tmp t :: l => (compR l).map fun qs => .t (toP t) :: qs
  | .cell a ty :: l => (aggB P ty).bind fun g => (sizeB P ty).bind fun m => (compR l).bind fun qs => bif g then (bif Nat.blt 0 m then some (.cell (toP a) m :: qs) else none) else some (.cell (toP a) 0 :: qs)
def places : Nat → Nat → List Kev.P
  | 0, _ => []
  | m + 1, i => toP i :: places m (i + 1)
/-- A function with a body. -/
def compF (g : Bool) (fn : Func) (m : Nat) : Option AF :=
  match fn.body with
  | none => none
  | some x => bif Nat.ble m fn.ntmps && !(fn.name == "runtime.NumGoroutine") then (compR P fn.results.toList).map fun res => .code (places m 0) (compC P nG ifts fn.ntmps g x) res else none
end
section
variable {c : Ctx} {P : Program} {ifts : List Nat × List (Nat × Nat × Nat)}
theorem compR_spec : ∀ {l : List ResultVar} {qs : List RV}, compR P l = some qs → RVFs P l qs
  | [], qs, h => by cases h; exact .nil
  | .tmp t :: l, qs, h => by
    obtain ⟨rs, h1, rfl⟩ := omp h
    exact .cons rfl (compR_spec h1)
  | .cell a ty :: l, qs, h => by
    obtain ⟨g, h1, h⟩ := obd h
    obtain ⟨m, h2, h⟩ := obd h
    obtain ⟨rs, h3, h⟩ := obd h
    cases g with
    | true =>
      obtain ⟨hb, h⟩ := ite_some (show (bif Nat.blt 0 m then some (RV.cell (toP a) m :: rs) else none) = some qs from h)
      cases h
      exact .cons ⟨rfl, .inr ⟨h1, by have := blt_lt hb; omega, h2⟩⟩ (compR_spec h3)
    | false =>
      cases h
      exact .cons ⟨rfl, .inl ⟨h1, rfl⟩⟩ (compR_spec h3)
theorem places_eq : ∀ m i, places m i = (List.range' i m).map toP
  | 0, i => rfl
  | m + 1, i => by rw [List.range'_succ, List.map_cons, ← places_eq m (i + 1)]; rfl
theorem compF_ok (hm : P.follows .mixedOrders = true) {f : Nat} {fn : Func} {m : Nat} {g : Bool} {x : AF} (hf : P.funcs[f]? = some fn) (h : compF P c.nG ifts g fn m = some x) : FnOk c P f x := by
  unfold compF at h
  split at h
  · cases h
  · rename_i code hb
    obtain ⟨b, h⟩ := ite_some h
    obtain ⟨b1, b2⟩ := and2 b
    obtain ⟨res, h1, rfl⟩ := omp h
    rw [Nat.ble_eq] at b1
    have hl : (places m 0).length = m := by rw [places_eq]; simp
    exact fn_code hf (by simpa using b2) hb (by rw [hl, places_eq]) (by rw [hl]; exact b1) (compC_good hm g code) (compR_spec h1)
end
/-- Whatever stands in a table has a property, at its place. -/
def AllT {α : Type} (p : Nat → α → Prop) : T α → Nat → Nat → Prop
  | .l, _, _ => True
  | .n a v b, i, m => (∀ x, v = some x → p i x) ∧ AllT p a (i + m) (2 * m) ∧ AllT p b (i + 2 * m) (2 * m)
theorem AllT.get {α : Type} {p : Nat → α → Prop} : ∀ {t : T α} {i m : Nat}, AllT p t i m → ∀ j x, t.get j = some x → p (i + m * j) x
  | .l, _, _, _, j, x, h => by cases h
  | .n a v b, i, m, h, 0, x, hx => by
    rw [Nat.mul_zero]
    exact h.1 x hx
  | .n a v b, i, m, h, j + 1, x, hx => by
    have hx : (Bool.rec (fun _ gb i => gb i) (fun ga _ i => ga i) (Nat.beq (Nat.mod j 2) 0) a.get b.get (Nat.div j 2) : Option α) = some x := hx
    cases hb : Nat.beq (Nat.mod j 2) 0 with
    | true =>
      rw [hb] at hx
      have := AllT.get h.2.1 (j / 2) x hx
      have e : j % 2 = 0 := by rw [Nat.beq_eq] at hb; exact hb
      have : p (i + m + 2 * m * (j / 2)) x := this
      rw [show i + m * (j + 1) = i + m + 2 * m * (j / 2) by
        have h2 : j = 2 * (j / 2) := by omega
        conv => lhs; rw [h2]
        rw [Nat.mul_add, Nat.mul_one, ← Nat.mul_assoc, Nat.mul_comm m 2]
        omega]
      exact this
    | false =>
      rw [hb] at hx
      have := AllT.get h.2.2 (j / 2) x hx
      have e : j % 2 ≠ 0 := fun e => by
        have : Nat.beq (Nat.mod j 2) 0 = true := by rw [Nat.beq_eq]; exact e
        rw [hb] at this; cases this
      have : p (i + 2 * m + 2 * m * (j / 2)) x := this
      rw [show i + m * (j + 1) = i + 2 * m + 2 * m * (j / 2) by
        have h2 : j = 2 * (j / 2) + 1 := by omega
        conv => lhs; rw [h2]
        rw [Nat.mul_add, Nat.mul_add, Nat.mul_one, ← Nat.mul_assoc, Nat.mul_comm m 2]
        omega]
      exact this
theorem AllT.leaf {α : Type} {p : Nat → α → Prop} {i m : Nat} : AllT p (.l : T α) i m := trivial
theorem AllT.here {α : Type} {p : Nat → α → Prop} {a b : T α} {x : α} {i m : Nat} (h : p i x) (ha : AllT p a (i + m) (2 * m)) (hb : AllT p b (i + 2 * m) (2 * m)) : AllT p (.n a (some x) b) i m :=
  ⟨fun y e => by cases e; exact h, ha, hb⟩
theorem AllT.hole {α : Type} {p : Nat → α → Prop} {a b : T α} {i m : Nat} (ha : AllT p a (i + m) (2 * m)) (hb : AllT p b (i + 2 * m) (2 * m)) : AllT p (.n a none b) i m :=
  ⟨fun y e => (by cases e), ha, hb⟩
end Go.Kev
/- Kev: a run, put together of parts. -/
namespace Go.Kev
variable {call : Nat → Call} {f lb : Nat} {e e1 : Env} {s s1 : S} {r : Option (Out × Env × S)} {a b : AC} {id : Nat} {o : Out}
noncomputable def blk (id : Nat) (r : Option (Out × Env × S)) : Option (Out × Env × S) := Option.rec none (fun p => Out.rec r (fun j => Bool.rec r (some (.nrm, p.2)) (Nat.beq j id)) r p.1) r
noncomputable def AC.opsOf (q : AC) : List AOper := AC.rec [] (fun l => l) (fun _ => []) (fun _ _ _ _ => []) (fun _ _ _ _ _ => []) (fun _ _ _ => []) (fun _ _ => []) (fun _ => []) [] [] [] q
noncomputable def AC.hd (n : Nat) (q : AC) : List AOper := q.opsOf.take n
noncomputable def runs (l : List AOper) (call : Call) (lb : Nat) : Env → S → (Env → S → R) → R := List.rec (fun env s k => k env s) (fun a _ ih env s k => a.run call lb env s fun env s => ih env s k) l
end Go.Kev
/- Kev: where a law's run begins. -/
namespace Go.Kev
open Go.RowKit
theorem start_rel {W : World} {nG : Nat} {e : Emb} {s : S} (hg : ∀ g, g < nG → e.D g ∧ e.f g = g ∧ e.b g = 0) (h : AllT (fun id o => id < nG ∧ ∃ r, o = .row r ∧ r.ro = true ∧ RowR e W id r) s.heap 0 1) : Rel ⟨W, nG⟩ e (hp s) W := by
  have key : ∀ id o, hp s id = some o → id < nG ∧ ∃ r, o = .row r ∧ r.ro = true ∧ RowR e W id r := fun id o ho => by
    have := AllT.get h id o ho
    rwa [Nat.zero_add, Nat.one_mul] at this
  refine ⟨fun id o ho => ?_, fun i j a b hi hj hf => ?_, fun id o ho hr => ?_, ⟨rfl, rfl, rfl, Nat.le_refl _, fun _ _ => rfl⟩, hg⟩
  · obtain ⟨h1, r, rfl, _, h3⟩ := key id o ho
    exact ⟨(hg id h1).1, h3⟩
  · have h1 := (key i a hi).1
    have h2 := (key j b hj).1
    rw [(hg i h1).2.1, (hg j h2).2.1] at hf
    exact hf
  · obtain ⟨h1, r, rfl, h2, _⟩ := key id o ho
    have : (!r.ro) = true := hr
    rw [h2] at this
    cases this
theorem start_fresh {W : World} {nG : Nat} {e : Emb} {s : S} (hn : nG ≤ s.nx) (h : AllT (fun id o => id < nG ∧ ∃ r, o = .row r ∧ r.ro = true ∧ RowR e W id r) s.heap 0 1) : Fresh s := by
  intro id hid
  cases ho : hp s id with
  | none => rfl
  | some o =>
    have := (AllT.get h id o ho).1
    omega
theorem calls_of_callee {P : Program} {f : Nat} {fn : Func} {x : Code} {args : Array Value} {w : World} {next : Value → World → Prop} (hf : P.funcs[f]? = some fn) (hname : (fn.name == "runtime.NumGoroutine") = false) (hb : fn.body = some x)
    (h : Callee P f args w next) : Calls P f args w fun | .returned u, w' => next u w' | _, _ => False := by
  unfold Callee at h
  rw [Go.MuLone.run_callFunc_enter hf hname hb] at h
  exact h
end Go.Kev
/- Kev: a closed call that the kernel runs whole, in any world. -/
namespace Go.Kev
open Go.RowKit
theorem law_runs_v {P : Program} {nG : Nat} {fns : T AF} {W : World} {g m : Nat} {s0 : S} {e : Emb} {v : V} (hall : ∀ f x, fns.get f = some x → FnOk ⟨W, nG⟩ P f x) (hrel : Rel ⟨W, nG⟩ e (hp s0) W) (hfr : Fresh s0) (hD : ∀ id, e.D id → id < s0.nx)
    (hrun : Option.map (fun p : Env × S => p.1.getP .h) (callN fns m 0 g [] s0 fun v s => some (.n .l (some v) .l, s)) = some (some v)) : Callee P g #[] W fun u w' => (∃ e', u = rho e' v) ∧ Below W.heap.size W w' := by
  obtain ⟨r, h0, h1⟩ := Option.map_eq_some_iff.1 hrun
  obtain ⟨v', s', l, hk, L⟩ := callN_ok hall m 0 g [] s0 _ _ (Nat.zero_le _) hfr h0
  have hv : v' = v := by
    injection hk with hk
    subst hk
    exact Option.some.inj h1
  subst hv
  have := L.run hfr e (hp s0) W (fun _ _ => rfl) hrel fun id h1 h2 hd => by have := hD id hd; omega
  refine Callee.mono (this trivial) fun u w' ⟨e', hu, _, _, _, hR⟩ => ⟨⟨e', hu⟩, hR.below⟩
/-- A call without arguments that the machine carries out from an empty memory. -/
theorem closed_calls {P : Program} {nG : Nat} {fns : T AF} {g m : Nat} {fn : Func} {x : Code} {v : V} {u : Value} (hall : ∀ W f x, fns.get f = some x → FnOk ⟨W, nG⟩ P f x) (hf : P.funcs[g]? = some fn) (hname : (fn.name == "runtime.NumGoroutine") = false) (hb : fn.body = some x)
    (hrun : Option.map (fun p : Env × S => p.1.getP .h) (callN fns m 0 g [] ⟨.l, nG, []⟩ fun v s => some (.n .l (some v) .l, s)) = some (some v)) (hv : ∀ e, rho e v = u) (W : World) :
    Calls P g #[] W fun e W' => e = .returned u ∧ Below W.heap.size W W' := by
  let em : Emb := ⟨fun id => id, fun _ => 0, fun _ => 0, fun _ => 0, fun id => id < nG, fun _ => ⟨0, 0, none⟩, fun _ => 0⟩
  have hAll : AllT (fun id o => id < nG ∧ ∃ r, o = Ob.row r ∧ r.ro = true ∧ RowR em W id r) (T.l : T Ob) 0 1 := .leaf
  have hg : ∀ g, g < nG → em.D g ∧ em.f g = g ∧ em.b g = 0 := fun g hg => ⟨hg, rfl, rfl⟩
  have hfin := law_runs_v (s0 := ⟨.l, nG, []⟩) (hall W) (start_rel hg hAll) (start_fresh (Nat.le_refl _) hAll) (fun id hd => hd) hrun
  refine (calls_of_callee hf hname hb hfin).mono fun e W' he => ?_
  cases e with
  | returned v =>
    obtain ⟨⟨e', hv'⟩, hb⟩ := he
    exact ⟨by rw [hv', hv], hb⟩
  | panicked c => exact he.elim
  | outgrown => exact he.elim
end Go.Kev
