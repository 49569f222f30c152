/- The machine over this program: its equations, and how it is run in proofs. No statement of the seat is proved here. -/
import Derived.Test.YtjbipegbpeefkaaGreatMk
import Derived.Test.YtjbipegbpeefkaaGreatMe
import Derived.KernelRfl
import Derived.IntWalk
set_option linter.unusedSimpArgs false
set_option linter.unusedVariables false
namespace Go.Ab
set_option maxRecDepth 100000
def X0 : Table := { irs := irT.get, ext := fun _ => none }
noncomputable def M : Env := mach X0
theorem pure_eq {f : Nat} {ir : IFunc} (h : irT.get f = some ir) (args : List C) (hi : ir.inl = false) (hn : args.length = ir.nparams) : M.pure f args = den M 0 ir.body (initTs ir (args.map .c)) { fr := [[]] } (retC ir) := by
  unfold M
  rw [mach_pure]; simp only [stepPure, X0, h]; rw [if_pos ⟨hi, hn⟩]
theorem rich_eq {f : Nat} {ir : IFunc} (h : irT.get f = some ir) (d : Nat) (args : List O) (s : St) (hi : ir.inl = false) (hn : args.length = ir.nparams) : M.rich d f args s = den M s.fr.length ir.body (initTs ir args) { s with fr := s.fr ++ [[]] } (retRich ir (d + 1) s.fr.length) := by
  unfold M
  rw [mach_rich]; simp only [stepRich, X0, h]; rw [if_pos hn, if_neg (by rw [hi]; simp)]
theorem code_eq (n : Nat) (kill ko : List Nat) (a : IC) (d : Nat) (ts : List O) (s : St) : M.code d (.loopAt n kill ko a) ts s = (match cut d n ts s with
    | some s => den M d a ts s fun e ts s => match e with
      | .normal => M.code d (.loopAt n kill ko a) (killTs kill ts) s
      | e => some (e, killTs ko ts, (cut d n (killTs ko ts) s).getD s)
    | none => none) := by
  unfold M; rw [mach_code]; rfl
theorem soundM : SoundPure Go.Proofs.Tryz.prog M := by
  intro f args v h
  obtain ⟨n, hn⟩ := (mach_pure_iff X0 f args v).1 h
  exact (sound (X := X0) (fun f ir hf => Tree.get_sound ckAll f ir hf) (fun f p args v h => by cases h) n).1 f args v hn
theorem all_inl : irT.All (fun _ ir => ir.inl = false) := by
  simp only [irT, Tree.All]
  repeat' constructor
theorem inl_M (f : Nat) : M.inl f = false := by
  show (match irT.get f with | some ir => ir.inl | none => false) = false
  split
  · rename_i ir h; exact Tree.get_sound all_inl f ir h
  · rfl

/-! ### Runs handed on -/
section
variable {α β : Type} {E : Env} {d : Nat}
theorem den_bind (g : α → Option β) : ∀ (c : IC) (ts : List O) (s : St) (k : Ex → List O → St → Option α), (den E d c ts s k).bind g = den E d c ts s (fun e ts s => (k e ts s).bind g) := by
  have hc : ∀ (c : IC) (ts : List O) (s : St) (k : Ex → List O → St → Option α), (handle k (E.code d c ts s)).bind g = handle (fun e ts s => (k e ts s).bind g) (E.code d c ts s) := by
    intro c ts s k
    cases E.code d c ts s with
    | none => rfl
    | some p => rfl
  intro c
  induction c with
  | skip => intro ts s k; rfl
  | label l => intro ts s k; rfl
  | ops n l un =>
    intro ts s k
    simp only [den]
    rw [opsSem_eq, opsSem_eq l ts (pushB s d n) (fun ts' s' => if disOk d (frameLen s d) ts' l un = true then (k .normal ts' s').bind g else none)]
    cases (opsSem E d (frameLen s d) l ts (pushB s d n) fun ts s => some (ts, s)) with
    | none => rfl
    | some p => simp only [Option.bind_some]; split <;> rfl
  | seq a b iha ihb =>
    intro ts s k
    simp only [den]
    rw [iha]
    congr 1
    funext e ts s
    cases e with
    | normal => exact ihb ts s k
    | _ => rfl
  | cond c a b iha ihb =>
    intro ts s k
    simp only [den]
    split
    · split
      · exact iha ts s k
      · exact ihb ts s k
    · rfl
  | block id a ih =>
    intro ts s k
    simp only [den]
    rw [ih]
    congr 1
    funext e ts s
    cases e with
    | exit id' => simp only; split <;> rfl
    | _ => rfl
  | loop kill ko a ih => intro ts s k; simp only [den]; exact hc _ _ _ _
  | loopAt m kill ko a ih => intro ts s k; simp only [den]; exact hc _ _ _ _
  | exit id => intro ts s k; rfl
  | goto l => intro ts s k; rfl
  | ret => intro ts s k; rfl
  | scope a b iha ihb => intro ts s k; simp only [den]; exact hc _ _ _ _
  | rangeFunc f ps a b iha ihb => intro ts s k; simp only [den]; exact hc _ _ _ _
theorem handle_bind (f : Ex → List O → St → Option β) (x : Option (Ex × List O × St)) : handle f x = x.bind fun p => f p.1 p.2.1 p.2.2 := by cases x <;> rfl
/-- A loop's round. -/
theorem loop_step (f : Ex → List O → St → Option β) (n : Nat) (kl ko : List Nat) (lb : IC) (d : Nat) (ts : List O) (s : St) : handle f (M.code d (.loopAt n kl ko lb) ts s) = (match cut d n ts s with
    | some s => den M d lb ts s (fun e ts s => match e with
      | .normal => handle f (M.code d (.loopAt n kl ko lb) (killTs kl ts) s)
      | e => f e (killTs ko ts) ((cut d n (killTs ko ts) s).getD s))
    | none => none) := by
  rw [code_eq, handle_bind]
  cases cut d n ts s with
  | none => rfl
  | some s1 =>
    simp only
    rw [den_bind]
    congr 1
    funext e ts s
    cases e with
    | normal => rw [handle_bind]
    | _ => rfl
end

/-! ### Known answers -/
/-- An environment whose answers are the machine's. -/
abbrev Le (S : Env) : Prop := Lim S (fun _ => M)
theorem Le.refl : Le M := ⟨fun _ => rfl, fun f l v h => Ev.all fun _ => h, fun d f l s r h => Ev.all fun _ => h, fun l a s r h => Ev.all fun _ => h, fun d c ts s r h => Ev.all fun _ => h⟩
def withP (f : Nat) (p : List C → Option C) (E : Env) : Env := { E with pure := fun g l => bif Nat.beq g f then p l else E.pure g l }
def withR (f : Nat) (p : Nat → List O → St → Option (O × St)) (E : Env) : Env := { E with rich := fun d g l s => bif Nat.beq g f then p d l s else E.rich d g l s }
theorem Le.p {S : Env} (h : Le S) {f : Nat} {p : List C → Option C} (hp : ∀ l v, p l = some v → M.pure f l = some v) : Le (withP f p S) := by
  refine ⟨h.inl, fun g l v hv => ?_, h.rich, h.round, h.code⟩
  have hv2 : (bif Nat.beq g f then p l else S.pure g l) = some v := hv
  clear hv
  cases e : Nat.beq g f with
  | true => rw [e] at hv2; rw [Nat.eq_of_beq_eq_true e]; exact Ev.all fun _ => hp l v hv2
  | false => rw [e] at hv2; exact h.pure g l v hv2
theorem Le.r {S : Env} (h : Le S) {f : Nat} {p : Nat → List O → St → Option (O × St)} (hp : ∀ d l s v, p d l s = some v → M.rich d f l s = some v) : Le (withR f p S) := by
  refine ⟨h.inl, h.pure, fun d g l s v hv => ?_, h.round, h.code⟩
  have hv2 : (bif Nat.beq g f then p d l s else S.rich d g l s) = some v := hv
  clear hv
  cases e : Nat.beq g f with
  | true => rw [e] at hv2; rw [Nat.eq_of_beq_eq_true e]; exact Ev.all fun _ => hp d l s v hv2
  | false => rw [e] at hv2; exact h.rich d g l s v hv2
theorem den_le {α : Type} {S : Env} (h : Le S) {d : Nat} {c : IC} {ts : List O} {s : St} {k : Ex → List O → St → Option α} {r : α} (hd : den S d c ts s k = some r) : den M d c ts s k = some r :=
  (den_lim h (fun e ts s hk => Ev.all fun _ => hk) hd).const
theorem pure_le {S : Env} (hS : Le S) {f : Nat} {ir : IFunc} (h : irT.get f = some ir) {args : List C} {v : C} (hi : ir.inl = false) (hn : args.length = ir.nparams) (hd : den S 0 ir.body (initTs ir (args.map .c)) { fr := [[]] } (retC ir) = some v) : M.pure f args = some v := by
  rw [pure_eq h args hi hn]; exact den_le hS hd
theorem loop_le {β : Type} {S : Env} (hS : Le S) {f : Ex → List O → St → Option β} {n : Nat} {kl ko : List Nat} {lb : IC} {d : Nat} {ts : List O} {s s' : St} {r : β} (hc : cut d n ts s = some s')
    (hd : den S d lb ts s' (fun e ts s => match e with
      | .normal => handle f (M.code d (.loopAt n kl ko lb) (killTs kl ts) s)
      | e => f e (killTs ko ts) ((cut d n (killTs ko ts) s).getD s)) = some r) : handle f (M.code d (.loopAt n kl ko lb) ts s) = some r := by
  rw [loop_step, hc]; exact den_le hS hd
/-- What comes behind a piece of code. -/
def kSeq {α : Type} (E : Env) (d : Nat) (b : IC) (k : Ex → List O → St → Option α) : Ex → List O → St → Option α := fun e ts s => match e with | .normal => den E d b ts s k | e => k e ts s
def kBlk {α : Type} (i : Nat) (k : Ex → List O → St → Option α) : Ex → List O → St → Option α := fun e ts s => match e with | .exit id' => if id' = i then k .normal ts s else k (.exit id') ts s | e => k e ts s
theorem wrap64 {x : Int} (h1 : -9223372036854775808 ≤ x) (h2 : x ≤ 9223372036854775807) : IntKind.i64.wrap x = x := IntWalk.i64_in _ (by omega)
abbrev Ic (x : Int) : C := .int .i64 x
abbrev Io (x : Int) : O := .c (.int .i64 x)
/-- A written block of whole numbers. -/
def V (l : List Int) : Blk := .vars (l.map Io)
end Go.Ab
