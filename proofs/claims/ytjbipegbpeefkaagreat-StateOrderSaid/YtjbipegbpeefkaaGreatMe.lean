/- The limit of the runs, which obeys plain equations. No statement of the seat is proved here. -/
import Derived.Test.YtjbipegbpeefkaaGreatMc

set_option linter.unusedVariables false
set_option linter.unusedSimpArgs false
/-! ## Al1 -/
namespace Go.Ab

/-- From some number on. -/
def Ev (p : Nat → Prop) : Prop := ∃ n0, ∀ n, n0 ≤ n → p n
theorem Ev.all {p : Nat → Prop} (h : ∀ n, p n) : Ev p := ⟨0, fun n _ => h n⟩
theorem Ev.mono {p q : Nat → Prop} (h : Ev p) (hq : ∀ n, p n → q n) : Ev q := let ⟨n0, h⟩ := h; ⟨n0, fun n hn => hq n (h n hn)⟩
theorem Ev.and {p q : Nat → Prop} (h : Ev p) (k : Ev q) : Ev fun n => p n ∧ q n :=
  let ⟨a, h⟩ := h; let ⟨b, k⟩ := k; ⟨max a b, fun n hn => ⟨h n (by omega), k n (by omega)⟩⟩

/-- An environment that is reached by others. -/
structure Lim (E : Env) (En : Nat → Env) : Prop where
  inl : ∀ n, (En n).inl = E.inl
  pure : ∀ f l v, E.pure f l = some v → Ev fun n => (En n).pure f l = some v
  rich : ∀ d f l s r, E.rich d f l s = some r → Ev fun n => (En n).rich d f l s = some r
  round : ∀ l a s r, E.round l a s = some r → Ev fun n => (En n).round l a s = some r
  code : ∀ d c ts s r, E.code d c ts s = some r → Ev fun n => (En n).code d c ts s = some r

section
variable {α : Type} {E : Env} {En : Nat → Env}

theorem heapV_lim (hL : Lim E En) {d base : Nat} {g : G} {ts : List O} {s : St} {op : HOp} {r : O × St} (h : heapV E d base g ts s op = some r) : Ev fun n => heapV (En n) d base g ts s op = some r := by
  cases op
  case call f args =>
    simp only [heapV, heapSem] at h
    cases e0 : rd ts f
    case yield l =>
      rw [e0] at h
      simp only at h
      split at h <;> try (cases h; done)
      rename_i os h1 e2
      split at h <;> try (cases h; done)
      rename_i o s1 e3
      exact (hL.round _ _ _ _ e3).mono fun n hn => by simp only [heapV, heapSem, e0, e2, hn]; exact h
    all_goals
      rw [e0] at h
      simp only at h
      split at h <;> try (cases h; done)
      rename_i ff a b e1
      split at h
      · rename_i hi
        split at h <;> try (cases h; done)
        rename_i o s1 e3
        refine (hL.rich _ _ _ _ _ e3).mono fun n hn => ?_
        simp only [heapV, heapSem, e0]
        rw [e1]; simp only [hL.inl, hi, if_true, hn]; exact h
      · rename_i hi
        split at h <;> try (cases h; done)
        rename_i os h1 e2
        split at h
        · rename_i l e3
          split at h <;> try (cases h; done)
          rename_i v e4
          refine (hL.pure _ _ _ e4).mono fun n hn => ?_
          simp only [heapV, heapSem, e0]
          rw [e1]; simp only [hL.inl, hi, if_false, e2, e3, hn, Bool.false_eq_true]; exact h
        · rename_i e3
          split at h <;> try (cases h; done)
          rename_i o s1 e4
          refine (hL.rich _ _ _ _ _ e4).mono fun n hn => ?_
          simp only [heapV, heapSem, e0]
          rw [e1]; simp only [hL.inl, hi, if_false, e2, e3, hn, Bool.false_eq_true]; exact h
  case callQ f args =>
    simp only [heapV, heapSem] at h
    split at h <;> try (cases h; done)
    rename_i ff a b e1
    split at h <;> try (cases h; done)
    rename_i os h1 e2
    split at h <;> try (cases h; done)
    rename_i l e3
    split at h <;> try (cases h; done)
    rename_i v e4
    exact (hL.pure _ _ _ e4).mono fun n hn => by simp only [heapV, heapSem, e1, e2, e3, hn]; exact h
  case callM f args =>
    simp only [heapV, heapSem] at h
    split at h <;> try (cases h; done)
    rename_i ff a b os h1 e1 e2
    split at h
    · rename_i l e3
      split at h <;> try (cases h; done)
      rename_i v e4
      exact (hL.pure _ _ _ e4).mono fun n hn => by simp only [heapV, heapSem, e1, e2, e3, hn]; exact h
    · rename_i e3
      split at h <;> try (cases h; done)
      rename_i hc
      split at h <;> try (cases h; done)
      rename_i v s1 e4
      refine (hL.rich _ _ _ _ _ e4).mono fun n hn => ?_
      simp only [heapV, heapSem, e1, e2, e3, hL.inl, if_pos hc, hn]; exact h
  case callS f args =>
    simp only [heapV, heapSem] at h
    split at h <;> try (cases h; done)
    rename_i l e1
    split at h <;> try (cases h; done)
    rename_i v e2
    exact (hL.pure _ _ _ e2).mono fun n hn => by simp only [heapV, heapSem, e1, hn]; exact h
  all_goals exact Ev.all fun n => by simpa only [heapV, heapSem] using h
theorem goSem_lim (hL : Lim E En) {d base : Nat} {g : G} {ts : List O} {s : St} {r : List O × St} (h : goSem E d base g ts s (fun ts s => some (ts, s)) = some r) : Ev fun n => goSem (En n) d base g ts s (fun ts s => some (ts, s)) = some r := by
  unfold goSem at h
  cases e : g.op with
  | inl op => rw [e] at h; exact Ev.all fun n => by unfold goSem; rw [e]; exact h
  | inr op =>
    rw [e] at h
    simp only at h
    split at h <;> try (cases h; done)
    rename_i hc
    rw [heapSem_nat] at h
    cases e2 : heapV E d base g ts s op with
    | none => unfold heapV at e2; rw [e2] at h; cases h
    | some p =>
      have e3 := e2
      unfold heapV at e3
      rw [e3] at h
      refine (heapV_lim hL e2).mono fun n hn => ?_
      unfold goSem
      rw [e]
      simp only [if_pos hc]
      rw [heapSem_nat]
      unfold heapV at hn
      rw [hn]
      exact h
theorem opV_lim (hL : Lim E En) {d base : Nat} {g : G} {ts : List O} {s : St} {r : List O × St} (h : opV E d base g ts s = some r) : Ev fun n => opV (En n) d base g ts s = some r := by
  unfold opV at h ⊢
  simp only [opSem_eq] at h ⊢
  cases e : g.guard with
  | none => rw [e] at h; simp only at h ⊢; exact goSem_lim hL h
  | some p =>
    obtain ⟨t, w⟩ := p
    rw [e] at h
    simp only at h ⊢
    cases e2 : ts.getD t .undef with
    | c v =>
      rw [e2] at h
      cases v with
      | bool b =>
        simp only at h ⊢
        by_cases hb : b = w
        · simp only [if_pos hb] at h ⊢; exact goSem_lim hL h
        · simp only [if_neg hb] at h ⊢; exact Ev.all fun _ => h
      | tuple l => cases l <;> exact Ev.all fun _ => h
      | _ => exact Ev.all fun _ => h
    | _ => rw [e2] at h; exact Ev.all fun _ => h
theorem opsV_lim (hL : Lim E En) {d base : Nat} : ∀ {l : List G} {ts : List O} {s : St} {r : List O × St}, (opsSem E d base l ts s fun ts s => some (ts, s)) = some r → Ev fun n => (opsSem (En n) d base l ts s fun ts s => some (ts, s)) = some r := by
  intro l
  induction l with
  | nil => intro ts s r h; exact Ev.all fun _ => h
  | cons g l ih =>
    intro ts s r h
    simp only [opsSem] at h
    rw [opSem_nat] at h
    cases e : opV E d base g ts s with
    | none => rw [e] at h; cases h
    | some p =>
      rw [e] at h
      simp only [Option.bind_some] at h
      refine ((opV_lim hL e).and (ih h)).mono fun n hn => ?_
      simp only [opsSem]
      rw [opSem_nat, hn.1]
      exact hn.2

theorem den_lim (hL : Lim E En) {d : Nat} : ∀ {c : IC} {ts : List O} {s : St} {k : Ex → List O → St → Option α} {kn : Nat → Ex → List O → St → Option α} {r : α}, (∀ e ts s, k e ts s = some r → Ev fun n => kn n e ts s = some r) → den E d c ts s k = some r → Ev fun n => den (En n) d c ts s (kn n) = some r := by
  intro c
  have hcode : ∀ {c : IC} {ts : List O} {s : St} {k : Ex → List O → St → Option α} {kn : Nat → Ex → List O → St → Option α} {r : α}, (∀ e ts s, k e ts s = some r → Ev fun n => kn n e ts s = some r) → handle k (E.code d c ts s) = some r → Ev fun n => handle (kn n) ((En n).code d c ts s) = some r := by
    intro c ts s k kn r hk h
    cases e : E.code d c ts s with
    | none => rw [e] at h; cases h
    | some p =>
      obtain ⟨e1, ts1, s1⟩ := p
      rw [e] at h
      exact ((hL.code _ _ _ _ _ e).and (hk _ _ _ h)).mono fun n hn => by rw [hn.1]; exact hn.2
  induction c with
  | skip => intro ts s k kn r hk h; exact hk _ _ _ h
  | label l => intro ts s k kn r hk h; exact hk _ _ _ h
  | ops n l un =>
    intro ts s k kn r hk h
    simp only [den] at h ⊢
    rw [opsSem_eq] at h
    cases e : (opsSem E d (frameLen s d) l ts (pushB s d n) fun ts s => some (ts, s)) with
    | none => rw [e] at h; cases h
    | some p =>
      rw [e] at h
      simp only [Option.bind_some] at h
      split at h <;> try (cases h; done)
      rename_i hd
      refine ((opsV_lim hL e).and (hk _ _ _ h)).mono fun n hn => ?_
      rw [opsSem_eq, hn.1]
      simp only [Option.bind_some, if_pos hd]
      exact hn.2
  | seq a b iha ihb =>
    intro ts s k kn r hk h
    simp only [den] at h ⊢
    refine iha (fun e ts s h => ?_) h
    cases e with
    | normal => exact ihb hk h
    | exit id => exact hk _ _ _ h
    | goto l => exact hk _ _ _ h
    | ret => exact hk _ _ _ h
  | cond c a b iha ihb =>
    intro ts s k kn r hk h
    simp only [den] at h ⊢
    split at h <;> try (cases h; done)
    rename_i t e
    by_cases ht : t = true
    · rw [if_pos ht] at h; simp only [if_pos ht]; exact iha hk h
    · rw [if_neg ht] at h; simp only [if_neg ht]; exact ihb hk h
  | block id a ih =>
    intro ts s k kn r hk h
    simp only [den] at h ⊢
    refine ih (fun e ts s h => ?_) h
    cases e with
    | exit id' =>
      simp only at h ⊢
      by_cases hi : id' = id
      · rw [if_pos hi] at h; simp only [if_pos hi]; exact hk _ _ _ h
      · rw [if_neg hi] at h; simp only [if_neg hi]; exact hk _ _ _ h
    | normal => exact hk _ _ _ h
    | goto l => exact hk _ _ _ h
    | ret => exact hk _ _ _ h
  | loop kill ko a ih => intro ts s k kn r hk h; simp only [den] at h ⊢; exact hcode hk h
  | loopAt m kill ko a ih => intro ts s k kn r hk h; simp only [den] at h ⊢; exact hcode hk h
  | exit id => intro ts s k kn r hk h; exact hk _ _ _ h
  | goto l => intro ts s k kn r hk h; exact hk _ _ _ h
  | ret => intro ts s k kn r hk h; exact hk _ _ _ h
  | scope a b iha ihb => intro ts s k kn r hk h; simp only [den] at h ⊢; exact hcode hk h
  | rangeFunc f ps a b iha ihb => intro ts s k kn r hk h; simp only [den] at h ⊢; exact hcode hk h

theorem step_lim (X : Table) (hL : Lim E En) : Lim (step X E) (fun n => step X (En n)) := by
  have ev : ∀ {β : Type} {p : Option β} {r : β}, p = some r → Ev fun _ => p = some r := fun h => Ev.all fun _ => h
  refine ⟨fun n => rfl, fun f l v h => ?_, fun d f l s r h => ?_, fun l a s r h => ?_, fun d c ts s r h => ?_⟩
  · have h : stepPure X E f l = some v := h
    show Ev fun n => stepPure X (En n) f l = some v
    unfold stepPure at h ⊢
    cases e1 : X.ext f with
    | some p => rw [e1] at h; exact ev h
    | none =>
      rw [e1] at h
      simp only at h ⊢
      cases e2 : X.irs f with
      | none => rw [e2] at h; cases h
      | some ir =>
        rw [e2] at h
        simp only at h ⊢
        split at h <;> try (cases h; done)
        rename_i hc
        simp only [if_pos hc]
        exact den_lim hL (fun e ts s h => ev h) h
  · have h : stepRich X E d f l s = some r := h
    show Ev fun n => stepRich X (En n) d f l s = some r
    unfold stepRich at h ⊢
    cases e2 : X.irs f with
    | none => rw [e2] at h; cases h
    | some ir =>
      rw [e2] at h
      simp only at h ⊢
      split at h <;> try (cases h; done)
      rename_i hc
      simp only [if_pos hc]
      by_cases hi : ir.inl = true
      · rw [if_pos hi] at h; simp only [if_pos hi]; exact den_lim hL (fun e ts s h => ev h) h
      · rw [if_neg hi] at h; simp only [if_neg hi]; exact den_lim hL (fun e ts s h => ev h) h
  · have h : stepRound E l a s = some r := h
    show Ev fun n => stepRound (En n) l a s = some r
    unfold stepRound at h ⊢
    split at h <;> try (cases h; done)
    rename_i rr e1
    try rw [e1]
    try simp only
    split at h <;> try (cases h; done)
    rename_i e2
    try rw [e2]
    try simp only
    split at h <;> try (cases h; done)
    rename_i ts e3
    try rw [e3]
    try simp only
    refine den_lim hL (fun e ts s h => ?_) h
    cases e with
    | normal => exact den_lim hL (fun e ts s h => ev h) h
    | _ => cases h
  · have h : stepCode E d c ts s = some r := h
    show Ev fun n => stepCode (En n) d c ts s = some r
    cases c with
    | loopAt m kill ko a =>
      simp only [stepCode] at h ⊢
      split at h <;> try (cases h; done)
      rename_i s1 e1
      try rw [e1]
      try simp only
      refine den_lim hL (fun e ts s h => ?_) h
      cases e with
      | normal => exact hL.code _ _ _ _ _ h
      | _ => exact ev h
    | scope run body =>
      simp only [stepCode] at h ⊢
      refine den_lim hL (fun e ts s h => ?_) h
      cases e with
      | goto l =>
        simp only at h ⊢
        cases e2 : findL body l with
        | none => rw [e2] at h; exact ev h
        | some rest => rw [e2] at h; exact hL.code _ _ _ _ _ h
      | _ => exact ev h
    | rangeFunc f ps asg body =>
      simp only [stepCode] at h ⊢
      split at h <;> try (cases h; done)
      rename_i hc
      simp only [if_pos hc]
      split at h <;> try (cases h; done)
      rename_i g a b e1
      try rw [e1]
      try simp only
      split at h <;> try (cases h; done)
      rename_i o s1 e2
      exact (hL.rich _ _ _ _ _ e2).mono fun n hn => by rw [hn]; exact h
    | _ => cases h
end

/-! ### The limit -/
section
variable (X : Table)
theorem run_inl (n : Nat) : (run X n).inl = (bot X).inl := by cases n <;> rfl
theorem run_step : ∀ n, Lim (run X n) (fun _ => run X (n + 1)) := by
  intro n
  induction n with
  | zero => exact ⟨fun _ => rfl, fun f l v h => (by cases h), fun d f l s r h => (by cases h), fun l a s r h => (by cases h), fun d c ts s r h => by cases h⟩
  | succ n ih => exact step_lim X ih
theorem Ev.const {p : Prop} (h : Ev fun _ => p) : p := let ⟨n0, h⟩ := h; h n0 (Nat.le_refl _)
theorem run_mono {n m : Nat} (hnm : n ≤ m) : Lim (run X n) (fun _ => run X m) := by
  induction hnm with
  | refl => exact ⟨fun _ => rfl, fun f l v h => Ev.all fun _ => h, fun d f l s r h => Ev.all fun _ => h, fun l a s r h => Ev.all fun _ => h, fun d c ts s r h => Ev.all fun _ => h⟩
  | @step m hle ih =>
    have h2 := run_step X m
    exact ⟨fun _ => by rw [run_inl, run_inl], fun f l v h => Ev.all fun _ => (h2.pure _ _ _ (ih.pure _ _ _ h).const).const, fun d f l s r h => Ev.all fun _ => (h2.rich _ _ _ _ _ (ih.rich _ _ _ _ _ h).const).const,
      fun l a s r h => Ev.all fun _ => (h2.round _ _ _ _ (ih.round _ _ _ _ h).const).const, fun d c ts s r h => Ev.all fun _ => (h2.code _ _ _ _ _ (ih.code _ _ _ _ _ h).const).const⟩

/-- What some run comes to. -/
noncomputable def some1 {β : Type} (p : Nat → Option β) : Option β := open Classical in if h : ∃ v n, p n = some v then some (Classical.choose h) else none
theorem some1_iff {β : Type} {p : Nat → Option β} (hp : ∀ n m v, n ≤ m → p n = some v → p m = some v) (v : β) : some1 p = some v ↔ ∃ n, p n = some v := by
  unfold some1
  by_cases h : ∃ v n, p n = some v
  · rw [dif_pos h]
    obtain ⟨n1, h1⟩ := Classical.choose_spec h
    constructor
    · intro e; cases e; exact ⟨n1, h1⟩
    · rintro ⟨n2, h2⟩
      have a := hp n1 (max n1 n2) _ (by omega) h1
      have b := hp n2 (max n1 n2) _ (by omega) h2
      rw [a] at b
      exact b
  · rw [dif_neg h]
    exact ⟨fun e => (by cases e), fun ⟨n, hn⟩ => absurd ⟨v, n, hn⟩ h⟩
/-- The machine itself. -/
noncomputable def mach : Env where
  pure f l := some1 fun n => (run X n).pure f l
  rich d f l s := some1 fun n => (run X n).rich d f l s
  round l a s := some1 fun n => (run X n).round l a s
  code d c ts s := some1 fun n => (run X n).code d c ts s
  inl := (bot X).inl
theorem mach_pure_iff (f : FuncId) (l : List C) (v : C) : (mach X).pure f l = some v ↔ ∃ n, (run X n).pure f l = some v := some1_iff (fun n m v hnm h => ((run_mono X hnm).pure _ _ _ h).const) v
theorem mach_rich_iff (d : Nat) (f : FuncId) (l : List O) (s : St) (v : O × St) : (mach X).rich d f l s = some v ↔ ∃ n, (run X n).rich d f l s = some v := some1_iff (fun n m v hnm h => ((run_mono X hnm).rich _ _ _ _ _ h).const) v
theorem mach_round_iff (l : Nat) (a : List O) (s : St) (v : O × St) : (mach X).round l a s = some v ↔ ∃ n, (run X n).round l a s = some v := some1_iff (fun n m v hnm h => ((run_mono X hnm).round _ _ _ _ h).const) v
theorem mach_code_iff (d : Nat) (c : IC) (ts : List O) (s : St) (v : Ex × List O × St) : (mach X).code d c ts s = some v ↔ ∃ n, (run X n).code d c ts s = some v := some1_iff (fun n m v hnm h => ((run_mono X hnm).code _ _ _ _ _ h).const) v
theorem run_mach (n : Nat) : Lim (run X n) (fun _ => mach X) :=
  ⟨fun _ => by rw [run_inl]; rfl, fun f l v h => Ev.all fun _ => (mach_pure_iff X f l v).2 ⟨n, h⟩, fun d f l s r h => Ev.all fun _ => (mach_rich_iff X d f l s r).2 ⟨n, h⟩,
    fun l a s r h => Ev.all fun _ => (mach_round_iff X l a s r).2 ⟨n, h⟩, fun d c ts s r h => Ev.all fun _ => (mach_code_iff X d c ts s r).2 ⟨n, h⟩⟩
theorem mach_lim : Lim (mach X) (run X) :=
  ⟨fun n => by rw [run_inl]; rfl,
   fun f l v h => let ⟨n, hn⟩ := (mach_pure_iff X f l v).1 h; ⟨n, fun m hm => ((run_mono X hm).pure _ _ _ hn).const⟩,
   fun d f l s r h => let ⟨n, hn⟩ := (mach_rich_iff X d f l s r).1 h; ⟨n, fun m hm => ((run_mono X hm).rich _ _ _ _ _ hn).const⟩,
   fun l a s r h => let ⟨n, hn⟩ := (mach_round_iff X l a s r).1 h; ⟨n, fun m hm => ((run_mono X hm).round _ _ _ _ hn).const⟩,
   fun d c ts s r h => let ⟨n, hn⟩ := (mach_code_iff X d c ts s r).1 h; ⟨n, fun m hm => ((run_mono X hm).code _ _ _ _ _ hn).const⟩⟩
theorem opt_ext {β : Type} {a b : Option β} (h : ∀ v, a = some v ↔ b = some v) : a = b := by
  cases a with
  | none => cases b with
    | none => rfl
    | some y => exact absurd ((h y).2 rfl) (by simp)
  | some x => exact ((h x).1 rfl).symm
/-- The machine's equations. -/
theorem mach_pure (f : FuncId) (l : List C) : (mach X).pure f l = stepPure X (mach X) f l := by
  refine opt_ext fun v => ⟨fun h => ?_, fun h => ?_⟩
  · obtain ⟨n, hn⟩ := (mach_pure_iff X f l v).1 h
    cases n with
    | zero => cases hn
    | succ n => exact ((step_lim X (run_mach X n)).pure f l v hn).const
  · obtain ⟨n0, hn⟩ := (step_lim X (mach_lim X)).pure f l v h
    exact (mach_pure_iff X f l v).2 ⟨n0 + 1, hn n0 (Nat.le_refl _)⟩
theorem mach_rich (d : Nat) (f : FuncId) (l : List O) (s : St) : (mach X).rich d f l s = stepRich X (mach X) d f l s := by
  refine opt_ext fun v => ⟨fun h => ?_, fun h => ?_⟩
  · obtain ⟨n, hn⟩ := (mach_rich_iff X d f l s v).1 h
    cases n with
    | zero => cases hn
    | succ n => exact ((step_lim X (run_mach X n)).rich d f l s v hn).const
  · obtain ⟨n0, hn⟩ := (step_lim X (mach_lim X)).rich d f l s v h
    exact (mach_rich_iff X d f l s v).2 ⟨n0 + 1, hn n0 (Nat.le_refl _)⟩
theorem mach_code (d : Nat) (c : IC) (ts : List O) (s : St) : (mach X).code d c ts s = stepCode (mach X) d c ts s := by
  refine opt_ext fun v => ⟨fun h => ?_, fun h => ?_⟩
  · obtain ⟨n, hn⟩ := (mach_code_iff X d c ts s v).1 h
    cases n with
    | zero => cases hn
    | succ n => exact ((step_lim X (run_mach X n)).code d c ts s v hn).const
  · obtain ⟨n0, hn⟩ := (step_lim X (mach_lim X)).code d c ts s v h
    exact (mach_code_iff X d c ts s v).2 ⟨n0 + 1, hn n0 (Nat.le_refl _)⟩
theorem mach_round (l : Nat) (a : List O) (s : St) : (mach X).round l a s = stepRound (mach X) l a s := by
  refine opt_ext fun v => ⟨fun h => ?_, fun h => ?_⟩
  · obtain ⟨n, hn⟩ := (mach_round_iff X l a s v).1 h
    cases n with
    | zero => cases hn
    | succ n => exact ((step_lim X (run_mach X n)).round l a s v hn).const
  · obtain ⟨n0, hn⟩ := (step_lim X (mach_lim X)).round l a s v h
    exact (mach_round_iff X l a s v).2 ⟨n0 + 1, hn n0 (Nat.le_refl _)⟩
end
end Go.Ab
