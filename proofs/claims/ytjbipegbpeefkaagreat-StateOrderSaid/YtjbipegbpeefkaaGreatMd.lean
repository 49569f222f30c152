/- A check, by computation, that a piece of intermediate code is what the model's code says: the operations. A check, by computation, that a piece of intermediate code is what the model's code says: memory, regions, code, functions. What came in, told by content: from the statement's reading of the arguments to the machine's values. From the machine's answer to the statement's form. No statement of the seat is proved here. -/
import Derived.Test.YtjbipegbpeefkaaGreatMc
import Derived.ProofKit
import Derived.DataReads

set_option linter.unusedVariables false
set_option linter.unusedSimpArgs false
set_option linter.unnecessarySimpa false
/-! ## Ak1 -/
namespace Go.Ab
open Go.RowKit

def all2 {α β : Type} (f : α → β → Bool) : List α → List β → Bool
  | [], [] => true
  | a :: l, b :: m => f a b && all2 f l m
  | _, _ => false
theorem all2_sound {α β : Type} {f : α → β → Bool} {R : α → β → Prop} (h : ∀ a b, f a b = true → R a b) : ∀ {l : List α} {m : List β}, all2 f l m = true → All2 R l m := by
  intro l
  induction l with
  | nil => intro m hm; cases m with | nil => exact .nil | cons b m => simp [all2] at hm
  | cons a l ih => intro m hm; cases m with
    | nil => simp [all2] at hm
    | cons b m => simp only [all2, Bool.and_eq_true] at hm; exact .cons (h a b hm.1) (ih hm.2)

def chkStr (s t : ByteArray) : Bool := decide (s.data.toList = t.data.toList)
theorem chkStr_sound {s t : ByteArray} (h : chkStr s t = true) : s = t := by
  unfold chkStr at h
  have := of_decide_eq_true h
  cases s; cases t
  simp only [ByteArray.mk.injEq]
  exact Array.toList_inj.1 this
def chkV : K → Value → Bool
  | .bool b, .bool c => b == c
  | .int k n, .int l m => decide (k = l) && decide (n = m)
  | .str s, .string t => chkStr s t
  | .nilp, .pointer none => true
  | .nils, .slice none 0 0 => true
  | .nilf, .nilFunc => true
  | .nilm, .map none => true
  | _, _ => false
theorem chkV_sound {k : K} {v : Value} (h : chkV k v = true) : KV k v := by
  unfold chkV at h
  split at h
  · rw [beq_iff_eq] at h; subst h; exact .bool _
  · simp only [Bool.and_eq_true, decide_eq_true_eq] at h; obtain ⟨rfl, rfl⟩ := h; exact .int _ _
  · have := chkStr_sound h; subst this; exact .str _
  · exact .nilp
  · exact .nils
  · exact .nilf
  · exact .nilm
  · cases h
def chkA : Operand → Arg → Bool
  | .tmp t, .t n => Nat.beq t n
  | .global _, .t n => Nat.beq n 999999
  | .const v, .k k => chkV k v
  | .func f, .f g => Nat.beq f g
  | _, _ => false
theorem chkA_sound {x : Operand} {y : Arg} (h : chkA x y = true) : TrA x y := by
  unfold chkA at h
  split at h
  · have := Nat.eq_of_beq_eq_true h; subst this; exact .tmp _
  · have := Nat.eq_of_beq_eq_true h; subst this; exact .any _
  · exact .const (chkV_sound h)
  · have := Nat.eq_of_beq_eq_true h; subst this; exact .func _
  · cases h
def chkZ : O → Value → Bool
  | .undef, _ => true
  | .nils, .slice none 0 0 => true
  | .c (.bool b), .bool c => b == c
  | .c (.int k n), .int l m => decide (k = l) && decide (n = m)
  | .c (.str s), .string t => chkStr s t
  | .c .nilp, .pointer none => true
  | .c .nilf, .nilFunc => true
  | .c .nilm, .map none => true
  | _, _ => false
theorem chkZ_sound {o : O} {v : Value} (h : chkZ o v = true) : ZR o v := by
  unfold chkZ at h
  split at h
  · exact .undef _
  · exact .k (k := .nils) .nils
  · rw [beq_iff_eq] at h; subst h; exact .k (k := .bool _) (.bool _)
  · simp only [Bool.and_eq_true, decide_eq_true_eq] at h; obtain ⟨rfl, rfl⟩ := h; exact .k (k := .int _ _) (.int _ _)
  · have := chkStr_sound h; subst this; exact .k (k := .str _) (.str _)
  · exact .k (k := .nilp) .nilp
  · exact .k (k := .nilf) .nilf
  · exact .k (k := .nilm) .nilm
  · cases h
def chkZC : C → Value → Bool
  | .bool b, .bool c => b == c
  | .int k n, .int l m => decide (k = l) && decide (n = m)
  | .str s, .string t => chkStr s t
  | .nilp, .pointer none => true
  | .nilf, .nilFunc => true
  | .nilm, .map none => true
  | .slice 0 _, .slice none 0 0 => true
  | _, _ => false
theorem chkZC_sound {c : C} {v : Value} (h : chkZC c v = true) : ZC c v := by
  unfold chkZC at h
  split at h
  · rw [beq_iff_eq] at h; subst h; exact .bool _
  · simp only [Bool.and_eq_true, decide_eq_true_eq] at h; obtain ⟨rfl, rfl⟩ := h; exact .int _ _
  · have := chkStr_sound h; subst this; exact .str _
  · exact .nilp
  · exact .nilf
  · exact .nilm
  · exact .nils _
  · cases h

section
variable (P : Program)

def isAggD : TypeDesc → Bool
  | .struct _ => true
  | .array _ _ => true
  | _ => false
def chkPart (t : TypeId) (n : Option Nat) : Bool :=
  match P.underlying t with
  | some td => match n with
    | none => !(isAggD td)
    | some k => isAggD td && (match P.info? t with | some i => Nat.beq i.size k | none => false)
  | none => false
theorem isAggD_eq (td : TypeDesc) : (match td with | .struct _ | .array _ _ => true | _ => false) = isAggD td := by cases td <;> rfl
theorem chkPart_sound {t : TypeId} {n : Option Nat} (h : chkPart P t n = true) : PartOf P t n := by
  unfold chkPart at h
  split at h
  · rename_i td e
    cases n with
    | none => exact .cell e (by rw [Bool.not_eq_true'] at h; revert h; cases td <;> simp [isAggD])
    | some k =>
      simp only [Bool.and_eq_true] at h
      obtain ⟨h1, h2⟩ := h
      split at h2
      · rename_i i e2
        have := Nat.eq_of_beq_eq_true h2
        subst this
        exact .agg e (by revert h1; cases td <;> simp [isAggD]) e2
      · cases h2
  · cases h

def chkOffs : Nat → List Field → List (List Bool) → Bool
  | _, [], [] => true
  | n, f :: fs, ks :: kss => Nat.beq f.offset n && !(decide (f.name = "_")) && chkOffs (n + ks.length) fs kss
  | _, _, _ => false
theorem chkOffs_sound : ∀ {fs : List Field} {kss : List (List Bool)} {n : Nat}, chkOffs n fs kss = true → kss.length = fs.length ∧ (∀ (j : Nat) (f : Field), fs[j]? = some f → f.name ≠ "_" ∧ f.offset = n + (kss.take j).flatten.length) := by
  intro fs
  induction fs with
  | nil => intro kss n h; cases kss with | nil => exact ⟨rfl, fun j f hj => by simp at hj⟩ | cons _ _ => simp [chkOffs] at h
  | cons f fs ih =>
    intro kss n h
    cases kss with
    | nil => simp [chkOffs] at h
    | cons ks kss =>
      simp only [chkOffs, Bool.and_eq_true, Bool.not_eq_true', decide_eq_false_iff_not] at h
      obtain ⟨⟨h1, h2⟩, h3⟩ := h
      obtain ⟨i1, i2⟩ := ih h3
      refine ⟨by simp [i1], fun j g hj => ?_⟩
      cases j with
      | zero => simp at hj; subst hj; exact ⟨h2, by simp [Nat.eq_of_beq_eq_true h1]⟩
      | succ j =>
        simp only [List.getElem?_cons_succ] at hj
        obtain ⟨k1, k2⟩ := i2 j g hj
        exact ⟨k1, by rw [k2]; simp; omega⟩
def chkFlat : Nat → TypeId → Option (List Bool)
  | 0, _ => none
  | d + 1, t => match P.underlying t with
    | some (.int _) => some [true]
    | some .bool => some [false]
    | some (.struct fs) => match P.info? t, fs.toList.mapM (fun f => chkFlat d f.type) with
      | some i, some kss => if P.stoodInHeld t = false ∧ i.size = kss.flatten.length ∧ chkOffs 0 fs.toList kss = true then some kss.flatten else none
      | _, _ => none
    | some (.array len e) => match P.info? t, P.info? e, chkFlat d e with
      | some i2, some i, some ks => if i.size = ks.length ∧ i2.size = len * ks.length then some (List.replicate len ks).flatten else none
      | _, _, _ => none
    | _ => none
theorem chkFlat_sound : ∀ {d : Nat} {t : TypeId} {ks : List Bool}, chkFlat P d t = some ks → Flat P d t ks := by
  intro d
  induction d with
  | zero => intro t ks h; cases h
  | succ d ih =>
    intro t ks h
    simp only [chkFlat] at h
    split at h
    · cases h; exact .int ‹_›
    · cases h; exact .bool ‹_›
    · rename_i fs e
      split at h <;> try (cases h; done)
      rename_i i kss e1 e2
      split at h <;> cases h
      rename_i hc
      obtain ⟨c1, c2, c3⟩ := hc
      obtain ⟨o1, o2⟩ := chkOffs_sound c3
      obtain ⟨m1, m2⟩ := mapM_some e2
      refine .struct e e1 c1 kss (by rw [m1]; simp) c2 (fun j f hj => (o2 j f (by simpa using hj)).1) (fun j f hj => by have := (o2 j f (by simpa using hj)).2; omega) (fun j f ks hj hk => ih (m2 j f ks (by simpa using hj) hk))
    · rename_i len e' e
      split at h <;> try (cases h; done)
      rename_i i2 i ks' e1 e2 e3
      split at h <;> cases h
      rename_i hc
      exact .array ks' e e2 hc.1 e1 hc.2 (ih e3)
    · cases h

def chkNg (op : BinOp) (ng : Bool) : Bool := decide (op = if ng then .neq else .eql)
def chkO : Option Operand → Option Arg → Bool
  | none, none => true
  | some x, some y => chkA x y
  | _, _ => false
theorem chkO_sound {x : Option Operand} {y : Option Arg} (h : chkO x y = true) : TrO x y := by
  unfold chkO at h
  split at h
  · exact .none
  · exact .some (chkA_sound h)
  · cases h
/-- Where the parts of a built value lie. -/
def placesOf (t : TypeId) : Option (Nat → Option (Nat × Nat)) :=
  match P.underlying t with
  | some (.struct fs) => (fs.toList.mapM (fun f => (P.info? f.type).map fun i => (f.offset, i.size))).map fun l => (l.toArray[·]?)
  | some (.array _ e) => (P.info? e).map fun i => fun k => some (k * i.size, i.size)
  | _ => none
theorem placesOf_sound {t : TypeId} {pl : Nat → Option (Nat × Nat)} (h : placesOf P t = some pl) : BuildAt P t pl := by
  unfold placesOf at h
  split at h
  · rename_i fs e
    cases e2 : fs.toList.mapM (fun f => (P.info? f.type).map fun i => (f.offset, i.size)) with
    | none => rw [e2] at h; cases h
    | some l => rw [e2] at h; cases h; exact .struct e e2
  · rename_i n e' e
    cases e2 : P.info? e' with
    | none => rw [e2] at h; cases h
    | some i => rw [e2] at h; cases h; exact .array e e2
  · cases h
def chkPt (pl : Nat → Option (Nat × Nat)) (p : Nat × Operand) (q : Nat × Nat × Arg) : Bool :=
  (match pl p.1 with | some (o, n) => Nat.beq o q.1 && Nat.beq n q.2.1 | none => false) && chkA p.2 q.2.2
theorem chkPt_sound {pl : Nat → Option (Nat × Nat)} {p : Nat × Operand} {q : Nat × Nat × Arg} (h : chkPt pl p q = true) : TrPart pl p q := by
  obtain ⟨i, x⟩ := p
  obtain ⟨o, n, y⟩ := q
  simp only [chkPt, Bool.and_eq_true] at h
  obtain ⟨h1, h2⟩ := h
  split at h1
  · rename_i o' n' e
    simp only [Bool.and_eq_true] at h1
    have e1 := Nat.eq_of_beq_eq_true h1.1
    have e2 := Nat.eq_of_beq_eq_true h1.2
    subst e1; subst e2
    exact .mk e (chkA_sound h2)
  · cases h1
def chkPs (p : Nat × Operand) (q : Nat × Arg × PT) : Bool := Nat.beq p.1 q.1 && chkA p.2 q.2.1
theorem chkPs_sound {p : Nat × Operand} {q : Nat × Arg × PT} (h : chkPs p q = true) : TrPartS p q := by
  obtain ⟨i, x⟩ := p
  obtain ⟨j, y, pt⟩ := q
  simp only [chkPs, Bool.and_eq_true] at h
  have : i = j := Nat.eq_of_beq_eq_true h.1
  subst this
  exact .mk (chkA_sound h.2)

def chkP (op : Op) (pop : POp) : Bool :=
  match pop with
  | .move y => (match op with | .move x => chkA x y | .assign x => chkA x y | _ => false)
  | .pick c x y => (match op with | .pick c' x' y' => chkA c' c && chkA x' x && chkA y' y | _ => false)
  | .build zero qs => (match op with
    | .build t ps => match placesOf P t, P.info? t with
      | some pl, some inf => (match inf.zero with | some z => all2 chkZ zero z.cells.toList && all2 (chkPt pl) ps.toList qs | none => false)
      | _, _ => false
    | _ => false)
  | .nilCheck y => (match op with | .nilCheck x => chkA x y | .panic _ => (match y with | .k .nilp => true | _ => false) | _ => false)
  | .bin b x y => (match op with | .binOp b' _ x' y' _ => decide (b' = b) && chkA x' x && chkA y' y | _ => false)
  | .eqBool ng x y => (match op with | .binOp b t x' y' _ => chkNg b ng && (match P.underlying t with | some .bool => true | _ => false) && chkA x' x && chkA y' y | _ => false)
  | .eqNil ng x => (match op with | .binOp b t x' (.const (.pointer none)) _ => chkNg b ng && (match P.underlying t with | some (.pointer _) => true | _ => false) && chkA x' x | _ => false)
  | .eqAgg ng ks x y => (match op with
    | .binOp b t x' y' _ => chkNg b ng && (match P.underlying t, P.info? t with | some td, some inf => isAggD td && Nat.beq inf.size ks.length | _, _ => false) && (P.eqGuardType P.depth t == false) && (match chkFlat P 10000 t with | some l => decide (l = ks) | none => false) && chkA x' x && chkA y' y
    | _ => false)
  | .not y => (match op with | .unOp .not _ x => chkA x y | _ => false)
  | .neg y => (match op with | .unOp .neg _ x => chkA x y | _ => false)
  | .conv k y => (match op with | .convert s t x => (P.underlying s).isSome && (match P.underlying t with | some (.int k') => decide (k' = k) | _ => false) && chkA x y | _ => false)
  | .field off n y => (match op with
    | .field t x i => (match P.underlying t with
      | some (.struct fs) => (match fs[i]? with | some f => Nat.beq f.offset off && chkPart P f.type n | none => false)
      | _ => false) && chkA x y
    | _ => false)
  | .fieldAddr off y => (match op with
    | .fieldAddr t x i => (match P.underlying t with
      | some (.struct fs) => (match fs[i]? with | some f => Nat.beq f.offset off && (match P.info? f.type with | some inf => !(Nat.beq inf.size 0) | none => false) | none => false)
      | _ => false) && chkA x y
    | _ => false)
  | .index len sz n y j => (match op with
    | .index t x i => (match P.underlying t with
      | some (.array len' e) => (match P.info? e with | some inf => Nat.beq len' len && Nat.beq inf.size sz && chkPart P e n | none => false)
      | _ => false) && chkA x y && chkA i j
    | _ => false)
  | .sindex y j => (match op with | .index t x i => (match P.underlying t with | some .string => true | _ => false) && chkA x y && chkA i j | _ => false)
  | .indexAddr sz y j => (match op with
    | .indexAddr t x i => (match P.underlying t with
      | some (.slice e) => (match P.info? e with | some inf => Nat.beq inf.size sz | none => false)
      | _ => false) && chkA x y && chkA i j
    | _ => false)
  | .indexAddrArr len sz y j => (match op with
    | .indexAddr t x i => (match P.underlying t with
      | some (.array len' e) => (match P.info? e with | some inf => Nat.beq len' len && Nat.beq inf.size sz | none => false)
      | _ => false) && chkA x y && chkA i j
    | _ => false)
  | .extract y j => (match op with | .extract x i => Nat.beq i j && chkA x y | _ => false)
  | .makeFunc f a b => (match op with | .makeFunc (.func f') a' b' => Nat.beq f' f && all2 chkA a'.toList a && all2 chkA b'.toList b | _ => false)
  | .len y => (match op with | .call { callee := .builtin .len, args := ⟨[x]⟩, argTypes := ⟨[t]⟩ } => (match P.underlying t with | some (.slice _) => true | _ => false) && chkA x y | _ => false)
  | .alen n => (match op with
    | .call { callee := .builtin .len, args := ⟨[_]⟩, argTypes := ⟨[t]⟩ } => (match P.underlying t with
      | some (.array m _) => Nat.beq m n
      | some (.pointer u) => (match P.underlying u with | some (.array m _) => Nat.beq m n | _ => false)
      | _ => false)
    | _ => false)
  | .minmax mx y ys => (match op with
    | .call { callee := .builtin b, args := ⟨x :: xs⟩, argTypes := _ } => (match b, mx with | .max, true => true | .min, false => true | _, _ => false) && chkA x y && all2 chkA xs ys
    | _ => false)
  | .sliceArr len sz y lo hi mx => (match op with
    | .slice t x lo' hi' none => (match mx with | none => true | _ => false) && (match P.underlying t with
      | some (.array len' e) => (match P.info? e with | some inf => Nat.beq len' len && Nat.beq inf.size sz | none => false)
      | _ => false) && chkA x y && chkO lo' lo && chkO hi' hi
    | _ => false)

theorem chkP_sound {op : Op} {pop : POp} (h : chkP P op pop = true) : TrP P op pop ∨ TrQ P op pop := by
  cases pop with
  | move y =>
    simp only [chkP] at h
    split at h
    · exact .inl (.move (chkA_sound h))
    · exact .inl (.assign (chkA_sound h))
    · cases h
  | pick c x y =>
    simp only [chkP] at h
    split at h
    · simp only [Bool.and_eq_true] at h; exact .inl (.pick (chkA_sound h.1.1) (chkA_sound h.1.2) (chkA_sound h.2))
    · cases h
  | build zero qs =>
    simp only [chkP] at h
    split at h <;> try (cases h; done)
    split at h <;> try (cases h; done)
    rename_i pl inf e1 e2
    split at h <;> try (cases h; done)
    rename_i z e3
    simp only [Bool.and_eq_true] at h
    exact .inr (.build (placesOf_sound P e1) e2 e3 (all2_sound (fun _ _ => chkZ_sound) h.1) (all2_sound (fun _ _ => chkPt_sound) h.2))
  | nilCheck y =>
    simp only [chkP] at h
    split at h
    · exact .inl (.nilCheck (chkA_sound h))
    · split at h
      · exact .inl .panic
      · cases h
    · cases h
  | bin b x y =>
    simp only [chkP] at h
    split at h
    · simp only [Bool.and_eq_true, decide_eq_true_eq] at h; obtain ⟨⟨rfl, h1⟩, h2⟩ := h; exact .inl (.bin (chkA_sound h1) (chkA_sound h2))
    · cases h
  | eqBool ng x y =>
    simp only [chkP] at h
    split at h <;> try (cases h; done)
    simp only [Bool.and_eq_true] at h
    obtain ⟨⟨⟨h1, h2⟩, h3⟩, h4⟩ := h
    split at h2 <;> try (cases h2; done)
    rename_i e
    exact .inl (.eqBool (of_decide_eq_true h1) e (chkA_sound h3) (chkA_sound h4))
  | eqNil ng x =>
    simp only [chkP] at h
    split at h <;> try (cases h; done)
    simp only [Bool.and_eq_true] at h
    obtain ⟨⟨h1, h2⟩, h3⟩ := h
    split at h2 <;> try (cases h2; done)
    rename_i e
    exact .inl (.eqNil (of_decide_eq_true h1) e (chkA_sound h3))
  | eqAgg ng ks x y =>
    simp only [chkP] at h
    split at h <;> try (cases h; done)
    simp only [Bool.and_eq_true] at h
    obtain ⟨⟨⟨⟨⟨h1, h2⟩, h3⟩, h4⟩, h5⟩, h6⟩ := h
    split at h2 <;> try (cases h2; done)
    rename_i td inf e1 e2
    simp only [Bool.and_eq_true] at h2
    split at h4 <;> try (cases h4; done)
    rename_i l e4
    have := of_decide_eq_true h4
    subst this
    exact .inr (.eqAgg (of_decide_eq_true h1) e1 (by have h2 := h2.1; revert h2; cases td <;> simp [isAggD]) e2 (Nat.eq_of_beq_eq_true h2.2) (by simpa using h3) (chkFlat_sound P e4) (chkA_sound h5) (chkA_sound h6))
  | not y =>
    simp only [chkP] at h
    split at h
    · exact .inl (.not (chkA_sound h))
    · cases h
  | neg y =>
    simp only [chkP] at h
    split at h
    · exact .inl (.neg (chkA_sound h))
    · cases h
  | conv k y =>
    simp only [chkP] at h
    split at h <;> try (cases h; done)
    rename_i s t x
    simp only [Bool.and_eq_true] at h
    obtain ⟨⟨h1, h2⟩, h3⟩ := h
    split at h2 <;> try (cases h2; done)
    rename_i k' e
    have := of_decide_eq_true h2
    subst this
    obtain ⟨ds, e2⟩ := Option.isSome_iff_exists.1 h1
    exact .inl (.conv e2 e (chkA_sound h3))
  | field off n y =>
    simp only [chkP] at h
    split at h <;> try (cases h; done)
    simp only [Bool.and_eq_true] at h
    obtain ⟨h1, h2⟩ := h
    split at h1 <;> try (cases h1; done)
    rename_i fs e
    split at h1 <;> try (cases h1; done)
    rename_i f e2
    simp only [Bool.and_eq_true] at h1
    have := Nat.eq_of_beq_eq_true h1.1
    subst this
    exact .inr (.field e e2 (chkPart_sound P h1.2) (chkA_sound h2))
  | fieldAddr off y =>
    simp only [chkP] at h
    split at h <;> try (cases h; done)
    simp only [Bool.and_eq_true] at h
    obtain ⟨h1, h2⟩ := h
    split at h1 <;> try (cases h1; done)
    rename_i fs e
    split at h1 <;> try (cases h1; done)
    rename_i f e2
    simp only [Bool.and_eq_true] at h1
    have := Nat.eq_of_beq_eq_true h1.1
    subst this
    have h3 := h1.2
    split at h3 <;> try (cases h3; done)
    rename_i inf e3
    exact .inl (.fieldAddr e e2 e3 (fun q => by rw [q] at h3; simp at h3) (chkA_sound h2))
  | index len sz n y j =>
    simp only [chkP] at h
    split at h <;> try (cases h; done)
    simp only [Bool.and_eq_true] at h
    obtain ⟨⟨h1, h2⟩, h3⟩ := h
    split at h1 <;> try (cases h1; done)
    rename_i len' e' e
    split at h1 <;> try (cases h1; done)
    rename_i inf e2
    simp only [Bool.and_eq_true] at h1
    have q1 := Nat.eq_of_beq_eq_true h1.1.1
    have q2 := Nat.eq_of_beq_eq_true h1.1.2
    subst q1; subst q2
    exact .inr (.index e e2 (chkPart_sound P h1.2) (chkA_sound h2) (chkA_sound h3))
  | sindex y j =>
    simp only [chkP] at h
    split at h <;> try (cases h; done)
    simp only [Bool.and_eq_true] at h
    obtain ⟨⟨h1, h2⟩, h3⟩ := h
    split at h1 <;> try (cases h1; done)
    rename_i e
    exact .inr (.sindex e (chkA_sound h2) (chkA_sound h3))
  | indexAddr sz y j =>
    simp only [chkP] at h
    split at h <;> try (cases h; done)
    simp only [Bool.and_eq_true] at h
    obtain ⟨⟨h1, h2⟩, h3⟩ := h
    split at h1 <;> try (cases h1; done)
    rename_i e' e
    split at h1 <;> try (cases h1; done)
    rename_i inf e2
    have q1 := Nat.eq_of_beq_eq_true h1
    subst q1
    exact .inl (.indexAddr e e2 (chkA_sound h2) (chkA_sound h3))
  | indexAddrArr len sz y j =>
    simp only [chkP] at h
    split at h <;> try (cases h; done)
    simp only [Bool.and_eq_true] at h
    obtain ⟨⟨h1, h2⟩, h3⟩ := h
    split at h1 <;> try (cases h1; done)
    rename_i len' e' e
    split at h1 <;> try (cases h1; done)
    rename_i inf e2
    simp only [Bool.and_eq_true] at h1
    have q1 := Nat.eq_of_beq_eq_true h1.1
    have q2 := Nat.eq_of_beq_eq_true h1.2
    subst q1; subst q2
    exact .inl (.indexAddrArr e e2 (chkA_sound h2) (chkA_sound h3))
  | extract y j =>
    simp only [chkP] at h
    split at h <;> try (cases h; done)
    simp only [Bool.and_eq_true] at h
    have q1 := Nat.eq_of_beq_eq_true h.1
    subst q1
    exact .inl (.extract (chkA_sound h.2))
  | makeFunc f a b =>
    simp only [chkP] at h
    split at h <;> try (cases h; done)
    simp only [Bool.and_eq_true] at h
    have q1 := Nat.eq_of_beq_eq_true h.1.1
    subst q1
    exact .inl (.makeFunc (all2_sound (fun _ _ => chkA_sound) h.1.2) (all2_sound (fun _ _ => chkA_sound) h.2))
  | len y =>
    simp only [chkP] at h
    split at h <;> try (cases h; done)
    simp only [Bool.and_eq_true] at h
    obtain ⟨h1, h2⟩ := h
    split at h1 <;> try (cases h1; done)
    rename_i e
    exact .inl (.len e (chkA_sound h2))
  | alen n =>
    simp only [chkP] at h
    split at h <;> try (cases h; done)
    split at h
    · rename_i m e' e
      have q1 := Nat.eq_of_beq_eq_true h
      subst q1
      exact .inr (.alenA e)
    · rename_i u e
      split at h <;> try (cases h; done)
      rename_i m e' e2
      have q1 := Nat.eq_of_beq_eq_true h
      subst q1
      exact .inr (.alenP e e2)
    · cases h
  | minmax mx y ys =>
    simp only [chkP] at h
    split at h <;> try (cases h; done)
    rename_i b x xs tys
    simp only [Bool.and_eq_true] at h
    obtain ⟨⟨h1, h2⟩, h3⟩ := h
    split at h1
    · exact .inr (.max rfl (chkA_sound h2) (all2_sound (fun _ _ => chkA_sound) h3))
    · exact .inr (.min rfl (chkA_sound h2) (all2_sound (fun _ _ => chkA_sound) h3))
    · cases h1
  | sliceArr len sz y lo hi mx =>
    simp only [chkP] at h
    split at h <;> try (cases h; done)
    simp only [Bool.and_eq_true] at h
    obtain ⟨⟨⟨⟨h1, h2⟩, h3⟩, h4⟩, h5⟩ := h
    split at h1 <;> try (cases h1; done)
    split at h2 <;> try (cases h2; done)
    rename_i len' e' e
    split at h2 <;> try (cases h2; done)
    rename_i inf e2
    simp only [Bool.and_eq_true] at h2
    have q1 := Nat.eq_of_beq_eq_true h2.1
    have q2 := Nat.eq_of_beq_eq_true h2.2
    subst q1; subst q2
    exact .inr (.sliceArr e e2 (chkA_sound h3) (chkO_sound h4) (chkO_sound h5))
end
end Go.Ab

/-! ## Ak2 -/
namespace Go.Ab
open Go.RowKit

def eqOpd : Operand → Operand → Bool
  | .tmp a, .tmp b => Nat.beq a b
  | .const (.int k n), .const (.int l m) => decide (k = l) && decide (n = m)
  | _, _ => false
theorem eqOpd_sound {x y : Operand} (h : eqOpd x y = true) : x = y := by
  unfold eqOpd at h
  split at h
  · rw [Nat.eq_of_beq_eq_true h]
  · simp only [Bool.and_eq_true, decide_eq_true_eq] at h; obtain ⟨rfl, rfl⟩ := h; rfl
  · cases h
/-- The functions that are slices.Clone, each with its elements' type. -/
abbrev Clones := List (FuncId × TypeId)
def ClonesOk (P : Program) (K : Clones) : Prop := ∀ p ∈ K, ∃ inf z, IsClone P p.1 p.2 inf z
def chkClone (P : Program) (K : Clones) (ff : FuncId) (lim : Nat) (zl : List C) : Bool :=
  match K.find? (fun p => Nat.beq p.1 ff) with
  | some p => match P.info? p.2 with
    | some inf => Nat.beq zl.length inf.size && decide (lim * inf.bytes ≤ 140737488355328) && decide (lim ≤ 9223372036854775807)
    | none => false
  | none => false
theorem chkClone_sound {P : Program} {K : Clones} (hK : ClonesOk P K) {ff : FuncId} {lim : Nat} {zl : List C} (h : chkClone P K ff lim zl = true) :
    ∃ e inf z, IsClone P ff e inf z ∧ zl.length = inf.size ∧ lim * inf.bytes ≤ 140737488355328 ∧ lim ≤ 9223372036854775807 := by
  unfold chkClone at h
  split at h <;> try (cases h; done)
  rename_i p e
  split at h <;> try (cases h; done)
  rename_i inf e2
  have hp := List.mem_of_find?_eq_some e
  have hf := List.find?_some e
  obtain ⟨inf', z, hC⟩ := hK p hp
  have : p.1 = ff := Nat.eq_of_beq_eq_true hf
  have hi := hC.hi
  rw [e2] at hi
  cases hi
  simp only [Bool.and_eq_true, decide_eq_true_eq] at h
  exact ⟨p.2, inf, z, this ▸ hC, Nat.eq_of_beq_eq_true h.1.1, h.1.2, h.2⟩

section
variable (P : Program) (K : Clones)

def chkH (op : Op) (hop : HOp) : Bool :=
  match hop with
  | .nilArr _ _ => (match op with | .move (.const (.slice none 0 0)) => true | .assign (.const (.slice none 0 0)) => true | _ => false)
  | .alloc zero _ => (match op with
    | .alloc t => (match P.info? t with | some inf => (match inf.zero with | some zv => all2 chkZ zero zv.cells.toList | none => false) | none => false)
    | _ => false)
  | .box _ _ x' => (match op with | .box _ x => chkA x x' | _ => false)
  | .buildSlice n sz zl qs => (match op with
    | .buildSlice t n' ps => (match P.underlying t with
      | some (.slice e) => (match P.info? e with
        | some inf => (match inf.zero with
          | some zv => Nat.beq n' n && Nat.beq sz zl.length && all2 chkZC zl zv.cells.toList && Nat.beq inf.size zl.length && Nat.blt 0 zl.length && decide (n * zl.length ≤ 16777216) && all2 chkPs ps.toList qs
          | none => false)
        | none => false)
      | _ => false)
    | _ => false)
  | .makeSlice sz bytes zl x' => (match op with
    | .makeSlice t x y => eqOpd x y && (match P.underlying t with
      | some (.slice e) => (match P.info? e with
        | some inf => (match inf.zero with
          | some zv => Nat.beq sz zl.length && Nat.beq inf.bytes bytes && all2 chkZC zl zv.cells.toList && Nat.beq inf.size zl.length && Nat.blt 0 zl.length && Nat.blt 0 inf.bytes && chkA x x'
          | none => false)
        | none => false)
      | _ => false)
    | _ => false)
  | .load n x' => (match op with | .load t x => chkPart P t n && chkA x x' | _ => false)
  | .store n _ x' y' => (match op with | .store t x y => (match P.info? t with | some inf => Nat.beq inf.size n | none => false) && chkA x x' && chkA y y' | _ => false)
  | .append sz lim _ x' y' => (match op with
    | .call { callee := .builtin .append, args := ⟨[x, y]⟩, argTypes := ⟨[t, t2]⟩ } => (match P.underlying t, P.underlying t2 with
      | some (.slice e), some (.slice _) => (match P.info? e with
        | some inf => (match inf.zero with
          | some zv => Nat.beq inf.size sz && Nat.blt 0 inf.size && Nat.beq zv.cells.size inf.size && decide (lim * inf.bytes ≤ 140737488355328) && decide (lim ≤ 9223372036854775807) && chkA x x' && chkA y y'
          | none => false)
        | none => false)
      | _, _ => false)
    | _ => false)
  | .clone _ lim zl x' => (match op with | .call { callee := .value (.func ff), args := ⟨[x]⟩, argTypes := _ } => chkClone P K ff lim zl && chkA x x' | _ => false)
  | .cloneP lim zl x' => (match op with | .call { callee := .value (.func ff), args := ⟨[x]⟩, argTypes := _ } => chkClone P K ff lim zl && chkA x x' | _ => false)
  | .sort _ => false
  | .clear sz zl x' => (match op with
    | .call { callee := .builtin .clear, args := ⟨[x]⟩, argTypes := ⟨[t]⟩ } => (match P.underlying t with
      | some (.slice e) => (match P.info? e with
        | some inf => (match inf.zero with | some zv => Nat.beq sz zl.length && all2 chkZC zl zv.cells.toList && chkA x x' | none => false)
        | none => false)
      | _ => false)
    | _ => false)
  | .call f' l => (match op with | .call { callee := .value f, args := xs, argTypes := _ } => chkA f f' && all2 (fun x (p : Arg × PT) => chkA x p.1) xs.toList l | _ => false)
  | .callQ f' l => (match op with | .call { callee := .value f, args := xs, argTypes := _ } => chkA f f' && all2 (fun x (p : Arg × PT) => chkA x p.1) xs.toList l | _ => false)
  | .callM f' l => (match op with | .call { callee := .value f, args := xs, argTypes := _ } => chkA f f' && all2 (fun x (p : Arg × PT) => chkA x p.1) xs.toList l | _ => false)
  | .callS _ _ => false
  | .slice sz x' lo' hi' mx' => (match op with
    | .slice t x lo hi none => (match mx' with | none => true | _ => false) && (match P.underlying t with
      | some (.slice e) => (match P.info? e with | some inf => Nat.beq inf.size sz | none => false)
      | _ => false) && chkA x x' && chkO lo lo' && chkO hi hi'
    | _ => false)
  | .makeMap => false
  | .mlookup _ _ _ _ _ => false
  | .mapUpdate _ _ _ _ _ => false

theorem trArgs_of {xs : List Operand} {l : List (Arg × PT)} (h : all2 (fun x (p : Arg × PT) => chkA x p.1) xs l = true) : TrArgs xs l := by
  induction xs generalizing l with
  | nil => cases l with | nil => exact .nil | cons _ _ => simp [all2] at h
  | cons x xs ih => cases l with
    | nil => simp [all2] at h
    | cons p l => obtain ⟨y, pt⟩ := p; simp only [all2, Bool.and_eq_true] at h; exact .cons (chkA_sound h.1) (ih h.2)

theorem chkH_sound (hK : ClonesOk P K) {op : Op} {hop : HOp} (h : chkH P K op hop = true) : TrOp P op (.inr hop) := by
  cases hop with
  | nilArr mu z =>
    simp only [chkH] at h
    split at h
    · exact .h .nilMove
    · exact .h .nilAssign
    · cases h
  | alloc zero sl =>
    simp only [chkH] at h
    split at h <;> try (cases h; done)
    split at h <;> try (cases h; done)
    rename_i inf e1
    split at h <;> try (cases h; done)
    rename_i zv e2
    exact .h (.alloc e1 e2 (all2_sound (fun _ _ => chkZ_sound) h))
  | box n sl x' =>
    simp only [chkH] at h
    split at h <;> try (cases h; done)
    exact .h (.box (chkA_sound h))
  | buildSlice n sz zl qs =>
    simp only [chkH] at h
    split at h <;> try (cases h; done)
    split at h <;> try (cases h; done)
    rename_i e e1
    split at h <;> try (cases h; done)
    rename_i inf e2
    split at h <;> try (cases h; done)
    rename_i zv e3
    simp only [Bool.and_eq_true, decide_eq_true_eq] at h
    obtain ⟨⟨⟨⟨⟨⟨h1, h2⟩, h3⟩, h4⟩, h5⟩, h6⟩, h7⟩ := h
    have q1 := Nat.eq_of_beq_eq_true h1
    have q2 := Nat.eq_of_beq_eq_true h2
    subst q1; subst q2
    exact .h (.buildSlice e1 e2 e3 (all2_sound (fun _ _ => chkZC_sound) h3) (Nat.eq_of_beq_eq_true h4) (by simpa [Nat.blt_eq] using h5) h6 (all2_sound (fun _ _ => chkPs_sound) h7))
  | makeSlice sz bytes zl x' =>
    simp only [chkH] at h
    split at h <;> try (cases h; done)
    simp only [Bool.and_eq_true] at h
    obtain ⟨h0, h⟩ := h
    have q0 := eqOpd_sound h0
    subst q0
    split at h <;> try (cases h; done)
    rename_i e e1
    split at h <;> try (cases h; done)
    rename_i inf e2
    split at h <;> try (cases h; done)
    rename_i zv e3
    simp only [Bool.and_eq_true, decide_eq_true_eq] at h
    obtain ⟨⟨⟨⟨⟨⟨h1, h2⟩, h3⟩, h4⟩, h5⟩, h6⟩, h7⟩ := h
    have q1 := Nat.eq_of_beq_eq_true h1
    have q2 := Nat.eq_of_beq_eq_true h2
    subst q1; subst q2
    exact .h (.makeSlice e1 e2 e3 (all2_sound (fun _ _ => chkZC_sound) h3) (Nat.eq_of_beq_eq_true h4) (by simpa [Nat.blt_eq] using h5) (by simpa [Nat.blt_eq] using h6) (chkA_sound h7))
  | load n x' =>
    simp only [chkH] at h
    split at h <;> try (cases h; done)
    simp only [Bool.and_eq_true] at h
    exact .h (.load (chkPart_sound P h.1) (chkA_sound h.2))
  | store n sl x' y' =>
    simp only [chkH] at h
    split at h <;> try (cases h; done)
    simp only [Bool.and_eq_true] at h
    obtain ⟨⟨h1, h2⟩, h3⟩ := h
    split at h1 <;> try (cases h1; done)
    rename_i inf e1
    have q1 := Nat.eq_of_beq_eq_true h1
    subst q1
    exact .h (.store e1 (chkA_sound h2) (chkA_sound h3))
  | append sz lim z x' y' =>
    simp only [chkH] at h
    split at h <;> try (cases h; done)
    split at h <;> try (cases h; done)
    rename_i e e' e1 e2
    split at h <;> try (cases h; done)
    rename_i inf e3
    split at h <;> try (cases h; done)
    rename_i zv e4
    simp only [Bool.and_eq_true, decide_eq_true_eq] at h
    obtain ⟨⟨⟨⟨⟨⟨h1, h2⟩, h3⟩, h4⟩, h5⟩, h6⟩, h7⟩ := h
    have q1 := Nat.eq_of_beq_eq_true h1
    subst q1
    exact .h (.append e1 e2 e3 e4 (by simpa [Nat.blt_eq] using h2) (Nat.eq_of_beq_eq_true h3) h4 h5 (chkA_sound h6) (chkA_sound h7))
  | clone mu lim zl x' =>
    simp only [chkH] at h
    split at h <;> try (cases h; done)
    simp only [Bool.and_eq_true] at h
    obtain ⟨e, inf, z, h1, h2, h3, h4⟩ := chkClone_sound hK h.1
    exact .k (.clone h1 h2 h3 h4 (chkA_sound h.2))
  | cloneP lim zl x' =>
    simp only [chkH] at h
    split at h <;> try (cases h; done)
    simp only [Bool.and_eq_true] at h
    obtain ⟨e, inf, z, h1, h2, h3, h4⟩ := chkClone_sound hK h.1
    exact .k (.cloneP h1 h2 h3 h4 (chkA_sound h.2))
  | sort x => cases h
  | clear sz zl x' =>
    simp only [chkH] at h
    split at h <;> try (cases h; done)
    split at h <;> try (cases h; done)
    rename_i e e1
    split at h <;> try (cases h; done)
    rename_i inf e2
    split at h <;> try (cases h; done)
    rename_i zv e3
    simp only [Bool.and_eq_true] at h
    have q1 := Nat.eq_of_beq_eq_true h.1.1
    subst q1
    exact .h (.clear e1 e2 e3 (all2_sound (fun _ _ => chkZC_sound) h.1.2) (chkA_sound h.2))
  | call f' l =>
    simp only [chkH] at h
    split at h <;> try (cases h; done)
    simp only [Bool.and_eq_true] at h
    exact .c (.call (chkA_sound h.1) (trArgs_of h.2))
  | callQ f' l =>
    simp only [chkH] at h
    split at h <;> try (cases h; done)
    simp only [Bool.and_eq_true] at h
    exact .c (.callQ (chkA_sound h.1) (trArgs_of h.2))
  | callM f' l =>
    simp only [chkH] at h
    split at h <;> try (cases h; done)
    simp only [Bool.and_eq_true] at h
    exact .c (.callM (chkA_sound h.1) (trArgs_of h.2))
  | callS f l => cases h
  | slice sz x' lo' hi' mx' =>
    simp only [chkH] at h
    split at h <;> try (cases h; done)
    simp only [Bool.and_eq_true] at h
    obtain ⟨⟨⟨⟨h1, h2⟩, h3⟩, h4⟩, h5⟩ := h
    split at h1 <;> try (cases h1; done)
    split at h2 <;> try (cases h2; done)
    rename_i e e1
    split at h2 <;> try (cases h2; done)
    rename_i inf e2
    have q1 := Nat.eq_of_beq_eq_true h2
    subst q1
    exact .h (.slice e1 e2 (chkA_sound h3) (chkO_sound h4) (chkO_sound h5))
  | makeMap => cases h
  | mlookup _ _ _ _ _ => cases h
  | mapUpdate _ _ _ _ _ => cases h

/-! ### Regions -/
def chkGd (ops : Array Oper) : Option (Nat × Bool) → Option (Nat × Bool) → Bool
  | none, none => true
  | some (j, b), some (t, c) => (b == c) && (match (ops[j]?).bind (·.dst) with | some t' => Nat.beq t' t | none => false)
  | _, _ => false
theorem chkGd_sound {ops : Array Oper} {x y : Option (Nat × Bool)} (h : chkGd ops x y = true) : TrGd ops x y := by
  unfold chkGd at h
  split at h
  · exact .none
  · simp only [Bool.and_eq_true, beq_iff_eq] at h
    obtain ⟨rfl, h⟩ := h
    split at h <;> try (cases h; done)
    rename_i t' e
    have := Nat.eq_of_beq_eq_true h
    subst this
    exact .some e
  · cases h
def chkG (ops : Array Oper) (o : Oper) (g : G) : Bool :=
  decide (g.dst = o.dst) && chkGd ops o.guard g.guard && (match g.op with | .inl p => chkP P o.op p | .inr q => chkH P K o.op q)
theorem chkG_sound (hK : ClonesOk P K) {ops : Array Oper} {o : Oper} {g : G} (h : chkG P K ops o g = true) : TrG P ops o g := by
  unfold chkG at h
  simp only [Bool.and_eq_true, decide_eq_true_eq] at h
  obtain ⟨⟨h1, h2⟩, h3⟩ := h
  refine ⟨h1, chkGd_sound h2, ?_⟩
  split at h3
  · rename_i p e
    rw [e]
    rcases chkP_sound P h3 with q | q
    · exact .p q
    · exact .q q
  · rename_i q e
    rw [e]
    exact chkH_sound P K hK h3

/-- For each operation, what must come ahead of it, as the bits of a number. -/
def befMask (acc : List Nat) (o : Oper) : Nat := o.after.toList.foldl (fun m e => if Region.binds .any e = true then (m ||| (1 <<< e.on)) ||| acc.getD e.on 0 else m) 0
def befMasks : List Oper → List Nat → List Nat
  | [], acc => acc
  | o :: r, acc => befMasks r (acc ++ [befMask acc o])
def edgesOk : Nat → List Oper → Bool
  | _, [] => true
  | i, o :: r => o.after.toList.all (fun e => !(Region.binds .any e) || Nat.blt e.on i) && edgesOk (i + 1) r
theorem edgesOk_sound : ∀ {l : List Oper} {i : Nat}, edgesOk i l = true → ∀ (j : Nat) (o : Oper), l[j]? = some o → ∀ e ∈ o.after.toList, Region.binds .any e = true → e.on < i + j := by
  intro l
  induction l with
  | nil => intro i _ j o hj; simp at hj
  | cons o r ih =>
    intro i h j o' hj e he hb
    simp only [edgesOk, Bool.and_eq_true, List.all_eq_true] at h
    cases j with
    | zero =>
      simp at hj; subst hj
      have := h.1 e he
      rw [hb] at this
      simpa [Nat.blt_eq] using this
    | succ j =>
      simp only [List.getElem?_cons_succ] at hj
      have := ih h.2 j o' hj e he hb
      omega
theorem bef_lt {ops : Array Oper} (h : edgesOk 0 ops.toList = true) : ∀ y i, Bef ops y i → y < i := by
  intro y i hb
  induction hb with
  | @edge i o e ho he hb =>
    have := edgesOk_sound h i o (by simpa using ho) e (by simpa using he) hb
    omega
  | trans h1 h2 ih1 ih2 => omega
theorem foldl_mask {acc : List Nat} {R : Nat → Prop} (hacc : ∀ k, (∀ j, (acc.getD k 0).testBit j = true → R k → R j)) : ∀ (l : List Edge) (m : Nat), (∀ j, m.testBit j = true → R j) → (∀ e ∈ l, Region.binds .any e = true → R e.on) →
    ∀ j, (l.foldl (fun m e => if Region.binds .any e = true then (m ||| (1 <<< e.on)) ||| acc.getD e.on 0 else m) m).testBit j = true → R j := by
  intro l
  induction l with
  | nil => intro m hm _ j hj; exact hm j hj
  | cons e r ih =>
    intro m hm he j hj
    simp only [List.foldl_cons] at hj
    refine ih _ ?_ (fun e' he' => he e' (List.mem_cons_of_mem _ he')) j hj
    intro k hk
    split at hk
    · rename_i hb
      have hR := he e (by simp) hb
      rw [Nat.testBit_or, Nat.testBit_or, Bool.or_eq_true, Bool.or_eq_true] at hk
      rcases hk with (hk | hk) | hk
      · exact hm k hk
      · rw [Nat.shiftLeft_eq, Nat.one_mul, Nat.testBit_two_pow] at hk
        have : e.on = k := by simpa using hk
        subst this; exact hR
      · exact hacc _ k hk hR
    · exact hm k hk
theorem befMasks_sound {ops : Array Oper} : ∀ (l : List Oper) (acc : List Nat), acc.length + l.length = ops.size → (∀ k o, l[k]? = some o → ops[acc.length + k]? = some o) → (∀ i j, (acc.getD i 0).testBit j = true → Bef ops j i) → ∀ i j, ((befMasks l acc).getD i 0).testBit j = true → Bef ops j i := by
  intro l
  induction l with
  | nil => intro acc _ _ h; exact h
  | cons o r ih =>
    intro acc hl ho h
    simp only [befMasks]
    refine ih _ (by simp at hl ⊢; omega) (fun k o' hk => ?_) (fun i j hb => ?_)
    · have := ho (k + 1) o' (by simpa using hk)
      rw [List.length_append, List.length_singleton, Nat.add_assoc, Nat.add_comm 1 k]
      exact this
    · rw [List.getD_eq_getElem?_getD] at hb
      rcases Nat.lt_trichotomy i acc.length with q | q | q
      · rw [List.getElem?_append_left q, ← List.getD_eq_getElem?_getD] at hb
        exact h i j hb
      · subst q
        rw [List.getElem?_append_right (Nat.le_refl _), Nat.sub_self] at hb
        simp only [List.getElem?_cons_zero, Option.getD_some] at hb
        have ho0 := ho 0 o rfl
        rw [Nat.add_zero] at ho0
        exact foldl_mask (R := fun j => Bef ops j acc.length) (fun k j hk hR => .trans (h k j hk) hR) o.after.toList 0 (fun j hj => by simp at hj) (fun e he hb => .edge ho0 (by simpa using he) hb) j hb
      · rw [List.getElem?_append_right (by omega), List.getElem?_eq_none (by simp; omega)] at hb
        simp at hb
def relB (ms : List Nat) (y i : Nat) : Bool := (ms.getD i 0).testBit y

def noW (g : G) : HOp → Bool
  | .store _ _ _ _ => false
  | .append _ _ _ _ _ => false
  | .callM _ _ => false
  | _ => Nat.beq g.cnt 0
theorem noW_sound {g : G} {op : HOp} (h : noW g op = true) (d base : Nat) (ts : List O) : fpW d base g ts op = [] := by
  cases op <;> simp only [noW] at h <;> first | (cases h; done) | (have := Nat.eq_of_beq_eq_true h; simp [fpW, this])
/-- Two operations whose order is left open. -/
def freeOk (un : List (Nat × Nat)) (y i : Nat) (gy gi : G) : Bool :=
  match gy.op, gi.op with
  | .inl _, _ => true
  | _, .inl _ => true
  | .inr o1, .inr o2 => !gy.alone && !gi.alone && Nat.ble o1.cnt gy.cnt && Nat.ble o2.cnt gi.cnt && (un.any (fun p => Nat.beq p.1 y && Nat.beq p.2 i) || (noW gy o1 && noW gi o2))
def pairOk (ms : List Nat) (un : List (Nat × Nat)) (y i : Nat) (gy gi : G) : Bool :=
  relB ms y i || ((match gy.dst with | some t => !(gi.looks.contains t) && !(decide (gi.dst = some t)) | none => true) && freeOk un y i gy gi)
/-- The pairs of one operation with those ahead of it, and with itself and those behind. -/
def rowOk (ms : List Nat) (un : List (Nat × Nat)) (i : Nat) (gi : G) : Nat → List G → Bool
  | _, [] => true
  | y, gy :: r => (if Nat.blt y i = true then pairOk ms un y i gy gi else (match gy.dst with | some t => !(gi.looks.contains t) | none => true)) && rowOk ms un i gi (y + 1) r
def rowsOk (ms : List Nat) (un : List (Nat × Nat)) (L : List G) : Nat → List G → Bool
  | _, [] => true
  | i, gi :: r => rowOk ms un i gi 0 L && rowsOk ms un L (i + 1) r
theorem rowOk_sound {ms : List Nat} {un : List (Nat × Nat)} {i : Nat} {gi : G} : ∀ {l : List G} {y : Nat}, rowOk ms un i gi y l = true → ∀ (j : Nat) (g : G), l[j]? = some g → if y + j < i then pairOk ms un (y + j) i g gi = true else (match g.dst with | some t => !(gi.looks.contains t) | none => true) = true := by
  intro l
  induction l with
  | nil => intro y _ j g hj; simp at hj
  | cons a r ih =>
    intro y h j g hj
    simp only [rowOk, Bool.and_eq_true] at h
    cases j with
    | zero =>
      simp at hj; subst hj
      have h1 := h.1
      by_cases q : y < i
      · rw [if_pos (by simpa [Nat.blt_eq] using q)] at h1
        rw [if_pos (by omega)]; exact h1
      · rw [if_neg (by simpa [Nat.blt_eq] using q)] at h1
        rw [if_neg (by omega)]; exact h1
    | succ j =>
      simp only [List.getElem?_cons_succ] at hj
      have := ih h.2 j g hj
      rwa [show y + 1 + j = y + (j + 1) by omega] at this
theorem rowsOk_sound {ms : List Nat} {un : List (Nat × Nat)} {L : List G} : ∀ {l : List G} {i : Nat}, rowsOk ms un L i l = true → ∀ (j : Nat) (g : G), l[j]? = some g → rowOk ms un (i + j) g 0 L = true := by
  intro l
  induction l with
  | nil => intro i _ j g hj; simp at hj
  | cons a r ih =>
    intro i h j g hj
    simp only [rowsOk, Bool.and_eq_true] at h
    cases j with
    | zero => simp at hj; subst hj; exact h.1
    | succ j =>
      simp only [List.getElem?_cons_succ] at hj
      have := ih h.2 j g hj
      rwa [show i + 1 + j = i + (j + 1) by omega] at this
def chkReg (ops : Array Oper) (L : List G) (un : List (Nat × Nat)) : Bool := edgesOk 0 ops.toList && rowsOk (befMasks ops.toList []) un L 0 L
theorem chkReg_sound {ops : Array Oper} {L : List G} {un : List (Nat × Nat)} (h : chkReg ops L un = true) (d base : Nat) : RegOk d base L un (Bef ops) := by
  unfold chkReg at h
  simp only [Bool.and_eq_true] at h
  obtain ⟨h1, h2⟩ := h
  have hB : ∀ y i, relB (befMasks ops.toList []) y i = true → Bef ops y i := fun y i q => befMasks_sound ops.toList [] (by simp) (fun k o hk => by simpa using hk) (fun i j q => by simp at q) i y q
  have hrow : ∀ (i k : Nat) (gi gk : G), L[i]? = some gi → L[k]? = some gk → if k < i then pairOk (befMasks ops.toList []) un k i gk gi = true else (match gk.dst with | some t => !(gi.looks.contains t) | none => true) = true := by
    intro i k gi gk hi hk
    have := rowOk_sound (rowsOk_sound h2 i gi hi) k gk hk
    simpa only [Nat.zero_add] using this
  refine ⟨bef_lt h1, fun i k gi gk t hi hk hd ht => ?_, fun i k gi gk t hlt hi hk hd1 hd2 => ?_, fun y i gy gi hlt hnr hy hi => ?_⟩
  · have := hrow i k gi gk hi hk
    split at this
    · unfold pairOk at this
      rw [Bool.or_eq_true] at this
      rcases this with q | q
      · exact hB _ _ q
      · rw [hd] at q
        simp only [Bool.and_eq_true, Bool.not_eq_true', List.contains_iff_mem, ← Bool.not_eq_true] at q
        exact absurd ht q.1.1
    · rw [hd] at this
      simp only [Bool.not_eq_true', ← Bool.not_eq_true, List.contains_iff_mem] at this
      exact absurd ht this
  · have := hrow i k gi gk hi hk
    rw [if_pos hlt] at this
    unfold pairOk at this
    rw [Bool.or_eq_true] at this
    rcases this with q | q
    · exact hB _ _ q
    · rw [hd1] at q
      simp only [Bool.and_eq_true, Bool.not_eq_true', decide_eq_false_iff_not] at q
      exact absurd hd2 q.1.2
  · have := hrow i y gi gy hi hy
    rw [if_pos hlt] at this
    unfold pairOk at this
    rw [Bool.or_eq_true] at this
    rcases this with q | q
    · exact absurd (hB _ _ q) hnr
    · rw [Bool.and_eq_true] at q
      have q := q.2
      unfold freeOk at q
      split at q
      · rename_i p e; exact .inl ⟨_, e⟩
      · rename_i e _; exact .inr (.inl ⟨_, e⟩)
      · rename_i o1 o2 e1 e2
        simp only [Bool.and_eq_true, Bool.not_eq_true', Nat.ble_eq, Bool.or_eq_true, List.any_eq_true] at q
        obtain ⟨⟨⟨⟨q1, q2⟩, q3⟩, q4⟩, q5⟩ := q
        refine .inr (.inr ⟨o1, o2, e1, e2, q1, q2, q3, q4, ?_⟩)
        rcases q5 with ⟨p, hp, r1, r2⟩ | ⟨r1, r2⟩
        · have w1 := Nat.eq_of_beq_eq_true r1
          have w2 := Nat.eq_of_beq_eq_true r2
          obtain ⟨a, b⟩ := p
          simp only at w1 w2
          subst w1; subst w2
          exact .inl hp
        · exact .inr ⟨fun ts => noW_sound r1 d base ts, fun ts => noW_sound r2 d base ts⟩

/-! ### Code and functions -/
def chkC : Code → IC → Bool
  | .skip, .skip => true
  | .ret, .ret => true
  | .exit i, .exit j => Nat.beq i j
  | .region _ ops draw, .ops _ L un => all2 (chkG P K ops) ops.toList L && (!draw || (P.follows .mixedOrders && chkReg ops L un))
  | .seq a b, .seq x y => chkC a x && chkC b y
  | .cond c a b, .cond c' x y => chkA c c' && chkC a x && chkC b y
  | .block i a, .block j x => Nat.beq i j && chkC a x
  | .loop a, .loop _ _ x => chkC a x
  | _, _ => false
theorem chkC_sound (hK : ClonesOk P K) : ∀ {c : Code} {ic : IC}, chkC P K c ic = true → TrCode P c ic := by
  intro c
  induction c with
  | skip => intro ic h; cases ic <;> simp [chkC] at h; exact .skip
  | ret => intro ic h; cases ic <;> simp [chkC] at h; exact .ret
  | exit i => intro ic h; cases ic <;> simp [chkC] at h; subst h; exact .exit
  | region id ops draw =>
    intro ic h
    cases ic with
    | ops n L un =>
      simp only [chkC, Bool.and_eq_true, Bool.or_eq_true, Bool.not_eq_true'] at h
      obtain ⟨h1, h2⟩ := h
      have ha := all2_sound (R := fun o g => TrG P ops o g) (fun o g q => chkG_sound P K hK q) h1
      have hlen := ha.len
      refine .region ⟨by simpa using hlen, fun i g hi => ?_, fun hd => ?_⟩
      · have hlt : i < ops.toList.length := by rw [← hlen]; exact (List.getElem?_eq_some_iff.1 hi).1
        have ho : ops.toList[i]? = some (ops.toList[i]) := List.getElem?_eq_getElem hlt
        exact ⟨_, by simpa using ho, ha.get ho hi⟩
      · rcases h2 with q | q
        · rw [q] at hd; cases hd
        · exact ⟨q.1, fun d base => chkReg_sound q.2 d base⟩
    | _ => simp [chkC] at h
  | seq a b iha ihb => intro ic h; cases ic <;> simp [chkC] at h; exact .seq (iha h.1) (ihb h.2)
  | cond c a b iha ihb => intro ic h; cases ic <;> simp [chkC] at h; exact .cond (chkA_sound h.1.1) (iha h.1.2) (ihb h.2)
  | block i a ih => intro ic h; cases ic <;> simp [chkC] at h; obtain ⟨h1, h2⟩ := h; subst h1; exact .block (ih h2)
  | loop a ih => intro ic h; cases ic <;> simp [chkC] at h; exact .loop (ih h)
  | _ => intro ic h; cases ic <;> simp [chkC] at h
def chkRV (r : ResultVar) (v : RV) : Bool :=
  match r, v with
  | .tmp t, .tmp t' _ => Nat.beq t t'
  | .cell a t, .cell a' n _ => Nat.beq a a' && chkPart P t n
  | _, _ => false
theorem chkRV_sound {r : ResultVar} {v : RV} (h : chkRV P r v = true) : TrRV P r v := by
  unfold chkRV at h
  split at h
  · have := Nat.eq_of_beq_eq_true h; subst this; exact .tmp
  · simp only [Bool.and_eq_true] at h
    have := Nat.eq_of_beq_eq_true h.1; subst this; exact .cell (chkPart_sound P h.2)
  · cases h
def chkF (fn : Func) (ir : IFunc) : Bool :=
  (match fn.body with | some c => chkC P K c ir.body | none => false) && !(fn.name == "runtime.NumGoroutine") && Nat.beq fn.ntmps ir.ntmps && all2 (chkRV P) fn.results.toList ir.results && Nat.ble ir.ntmps 900000 && Nat.ble ir.nparams 900000
theorem chkF_sound (hK : ClonesOk P K) {f : FuncId} {fn : Func} {ir : IFunc} (hf : P.funcs[f]? = some fn) (h : chkF P K fn ir = true) : TrF P f ir := by
  unfold chkF at h
  simp only [Bool.and_eq_true, Bool.not_eq_true', Nat.ble_eq] at h
  obtain ⟨⟨⟨⟨⟨h1, h2⟩, h3⟩, h4⟩, h5⟩, h6⟩ := h
  split at h1 <;> try (cases h1; done)
  rename_i c e
  exact ⟨⟨fn, c, hf, e, h2, Nat.eq_of_beq_eq_true h3, chkC_sound P K hK h1, all2_sound (fun _ _ => chkRV_sound P) h4⟩, h5, h6⟩
end

theorem isClone_of {P : Program} {f : FuncId} {fn : Func} {t tb e : TypeId} (hf : P.funcs[f]? = some fn) (hb : fn.body = some (cloneBody t tb)) (hn : (fn.name == "runtime.NumGoroutine") = false) (h8 : fn.ntmps = 8) (hr : fn.results = #[.tmp 2]) (ht : P.underlying t = some (.slice e))
    (hc : (match P.info? e with | some inf => (match inf.zero with | some z => Nat.blt 0 inf.size && Nat.beq z.cells.size inf.size | none => false) | none => false) = true) : ∃ inf z, IsClone P f e inf z := by
  split at hc <;> try (cases hc; done)
  rename_i inf e1
  split at hc <;> try (cases hc; done)
  rename_i z e2
  simp only [Bool.and_eq_true] at hc
  exact ⟨inf, z, ⟨fn, t, tb, hf, hb, hn, h8, hr, ht⟩, e1, e2, by simpa [Nat.blt_eq] using hc.1, Nat.eq_of_beq_eq_true hc.2⟩

/-! ### Tables -/
def Tree.All (Q : Nat → IFunc → Prop) : Tree → Prop
  | .leaf k ir => Q k ir
  | .node _ l r => l.All Q ∧ r.All Q
theorem Tree.get_sound {Q : Nat → IFunc → Prop} : ∀ {t : Tree}, t.All Q → ∀ f ir, t.get f = some ir → Q f ir := by
  intro t
  induction t with
  | leaf k ir =>
    intro h f ir' hg
    simp only [Tree.get, cond_eq_ite] at hg
    split at hg
    · rename_i q
      cases hg
      have := Nat.eq_of_beq_eq_true q
      subst this; exact h
    · cases hg
  | node m l r ihl ihr =>
    intro h f ir' hg
    simp only [Tree.get, cond_eq_ite] at hg
    split at hg
    · exact ihl h.1 f ir' hg
    · exact ihr h.2 f ir' hg
end Go.Ab

/-! ## Aj1 -/
namespace Go.Ab
open Go.RowKit

def RelC (F : Fz) (w : World) (cs : List C) (us : List Value) : Prop := us.length = cs.length ∧ (∀ c ∈ cs, oneC c = true) ∧ ∀ (j : Nat) (c : C) (u : Value), cs[j]? = some c → us[j]? = some u → VR F w c u
theorem RelC.nil {F : Fz} {w : World} : RelC F w [] [] := ⟨rfl, by simp, fun j c u h => by simp at h⟩
theorem RelC.one {F : Fz} {w : World} {c : C} {u : Value} (h1 : oneC c = true) (h : VR F w c u) : RelC F w [c] [u] := ⟨rfl, by simpa using h1, fun j c' u' hc hu => by
  cases j with
  | zero => simp at hc hu; subst hc; subst hu; exact h
  | succ j => simp at hc⟩
theorem RelC.append {F : Fz} {w : World} {cs cs' : List C} {us us' : List Value} (h : RelC F w cs us) (h' : RelC F w cs' us') : RelC F w (cs ++ cs') (us ++ us') := by
  obtain ⟨h1, h2, h3⟩ := h
  obtain ⟨k1, k2, k3⟩ := h'
  refine ⟨by simp [h1, k1], fun c hc => ?_, fun j c u hc hu => ?_⟩
  · rcases List.mem_append.1 hc with q | q
    · exact h2 c q
    · exact k2 c q
  · rcases Nat.lt_or_ge j cs.length with q | q
    · rw [List.getElem?_append_left q] at hc
      rw [List.getElem?_append_left (by omega)] at hu
      exact h3 j c u hc hu
    · rw [List.getElem?_append_right q] at hc
      rw [List.getElem?_append_right (by omega), h1] at hu
      exact k3 _ c u hc hu

/-- Cells that hold a value of a type. -/
def HasT (P : Program) (Z : TypeId → List C) : Nat → TypeId → List C → Prop
  | 0, _, _ => False
  | n + 1, t, cs => match P.underlying t with
    | some .bool => ∃ b, cs = [.bool b]
    | some (.int k) => ∃ v, cs = [.int k v] ∧ k.min ≤ v ∧ v ≤ k.max
    | some .string => ∃ s, cs = [.str s] ∧ s.size ≤ maxLen
    | some (.slice e) => ∃ m get, cs = [.slice m get] ∧ m ≤ maxLen ∧ (∀ i, i < m → HasT P Z n e (get i)) ∧ (∀ i, m ≤ i → get i = Z e)
    | some (.struct fs) => ∃ parts : List (List C), cs = parts.flatten ∧ All2 (fun (f : Field) p => HasT P Z n f.type p) fs.toList parts
    | some (.array len e) => ∃ parts : List (List C), parts.length = len ∧ cs = parts.flatten ∧ ∀ p ∈ parts, HasT P Z n e p
    | _ => False
def contig (P : Program) : Nat → List Field → Nat → Bool
  | o, [], tot => Nat.beq o tot
  | o, f :: fs, tot => Nat.beq f.offset o && contig P (o + P.cellsOf f.type) fs tot
def tyOk (P : Program) : Nat → TypeId → Bool
  | 0, _ => false
  | n + 1, t => match P.underlying t with
    | some .bool => true
    | some (.int _) => true
    | some .string => true
    | some (.slice e) => Nat.blt 0 (P.cellsOf e) && tyOk P n e
    | some (.struct fs) => contig P 0 fs.toList (P.cellsOf t) && fs.toList.all (fun f => tyOk P n f.type)
    | some (.array len e) => Nat.beq (P.cellsOf t) (len * P.cellsOf e) && tyOk P n e
    | _ => false

/-- All that is there when a call begins. -/
def allF (w : World) : Fz := fun b _ => b < w.heap.size

theorem cell_lt {w : World} {a : Addr} {v : Value} (h : w.cell? a = some v) : a.block < w.heap.size ∧ a.spot = none := by
  unfold World.cell? at h
  split at h
  · rename_i c t fr e
    refine ⟨(Array.getElem?_eq_some_iff.1 e).1, ?_⟩
    split at h
    · cases h
    · rename_i q; simpa using q
  · cases h

theorem open_trod {P : Program} {Z : TypeId → List C} {H : Type} {enc : TypeId × Value → H} {w : World} {held : Bool} : ∀ (n : Nat) {fuel : Nat} {t : TypeId} {us : List Value} {x : DataW H × List MemPlace}, tyOk P n t = true → DataW.trod enc P w 0 (fun _ => true) held fuel t us = some x →
    ∃ cs, HasT P Z n t cs ∧ RelC (allF w) w cs us := by
  intro n
  induction n with
  | zero => intro fuel t us x h; cases h
  | succ n ih =>
    intro fuel t us x hty h
    cases fuel with
    | zero => simp [DataW.trod] at h
    | succ fuel =>
      simp only [tyOk] at hty
      split at hty
      · rename_i e
        simp only [DataW.trod, e] at h
        rcases us with _ | ⟨u, _ | ⟨u2, r⟩⟩
        · simp at h
        · cases u with
          | bool b => exact ⟨[.bool b], by simp [HasT, e], RelC.one rfl (.bool b)⟩
          | _ => simp at h
        · cases u <;> simp at h
      · rename_i k e
        simp only [DataW.trod, e] at h
        rcases us with _ | ⟨u, _ | ⟨u2, r⟩⟩
        · simp at h
        · cases u with
          | int k' v =>
            simp only at h
            split at h <;> try (cases h; done)
            rename_i hc
            obtain ⟨rfl, hw⟩ := hc
            simp only [Lit.wf, Bool.and_eq_true, decide_eq_true_eq] at hw
            refine ⟨[.int k' v], ?_, RelC.one rfl (.int k' v)⟩
            simp only [HasT, e]
            exact ⟨v, rfl, hw.1, hw.2⟩
          | _ => simp at h
        · cases u <;> simp at h
      · rename_i e
        simp only [DataW.trod, e] at h
        rcases us with _ | ⟨u, _ | ⟨u2, r⟩⟩
        · simp at h
        · cases u with
          | string s =>
            simp only at h
            split at h <;> try (cases h; done)
            rename_i hc
            refine ⟨[.str s], ?_, RelC.one rfl (.str s)⟩
            simp only [HasT, e]
            exact ⟨s, rfl, hc⟩
          | _ => simp at h
        · cases u <;> simp at h
      · rename_i el e
        simp only [Bool.and_eq_true] at hty
        obtain ⟨hsz, hel⟩ := hty
        have hsz : 0 < P.cellsOf el := by simpa [Nat.blt_eq] using hsz
        simp only [DataW.trod, e] at h
        split at h <;> try (simp_all; done)
        · rename_i el' he
          refine ⟨[.slice 0 fun _ => Z el], ?_, RelC.one rfl .slice0⟩
          simp only [HasT, e]
          exact ⟨0, _, rfl, Nat.zero_le _, fun i hi => absurd hi (by omega), fun _ _ => rfl⟩
        · rename_i el' a len cap he
          cases he
          split at h <;> try (cases h; done)
          rename_i hc
          obtain ⟨_, hlc, hcm⟩ := hc
          cases e2 : (List.range len).mapM (fun i => (w.cells? 0 (a.add (i * P.cellsOf el)) (P.cellsOf el)).bind (DataW.trod enc P w 0 (fun _ => true) held fuel el)) with
          | none => rw [e2] at h; cases h
          | some elems =>
            have hget := mapM_some_get e2
            have hel1 := mapM_some_length e2
            have hi : ∀ i, i < len → ∃ us', w.cells? 0 (a.add (i * P.cellsOf el)) (P.cellsOf el) = some us' ∧ ∃ cs, HasT P Z n el cs ∧ RelC (allF w) w cs us' := by
              intro i hi
              have h1 := hget i i (by simp [hi])
              have h2 : elems[i]? = some (elems[i]'(by simp at hel1; omega)) := List.getElem?_eq_getElem _
              rw [h2] at h1
              obtain ⟨us', h3, h4⟩ := Option.bind_eq_some_iff.1 h1
              exact ⟨us', h3, ih hel h4⟩
            -- the cells of each element
            have hcell : ∀ i us', w.cells? 0 (a.add (i * P.cellsOf el)) (P.cellsOf el) = some us' → us'.length = P.cellsOf el ∧ ∀ j u, us'[j]? = some u → w.cell? ((a.add (i * P.cellsOf el)).add j) = some u := by
              intro i us' h1
              unfold World.cells? at h1
              rw [if_pos (Nat.zero_le _)] at h1
              have l1 := mapM_some_length h1
              refine ⟨by simpa using l1, fun j u hu => ?_⟩
              have hj : j < P.cellsOf el := by have := (List.getElem?_eq_some_iff.1 hu).1; simp at l1; omega
              have := mapM_some_get h1 j j (by simp [hj])
              rw [this, hu]
            by_cases hlen : len = 0
            · subst hlen
              refine ⟨[.slice 0 fun _ => Z el], ?_, RelC.one rfl .slice0⟩
              simp only [HasT, e]
              exact ⟨0, _, rfl, Nat.zero_le _, fun i hi => absurd hi (by omega), fun _ _ => rfl⟩
            · have hspot : a.spot = none := by
                obtain ⟨us', h1, _⟩ := hi 0 (by omega)
                obtain ⟨l1, l2⟩ := hcell 0 us' h1
                have h3 : us'[0]? = some (us'[0]'(by omega)) := List.getElem?_eq_getElem _
                have h4 := l2 0 _ h3
                have h5 : (a.add (0 * P.cellsOf el)).add 0 = a := by simp [Addr.add]
                rw [h5] at h4
                exact (cell_lt h4).2
              obtain ⟨b, off, spot⟩ := a
              simp only at hspot
              subst hspot
              have hch : ∃ (get : Nat → List C) (gu : Nat → List Value), ∀ i, (i < len → w.cells? 0 ((⟨b, off, none⟩ : Addr).add (i * P.cellsOf el)) (P.cellsOf el) = some (gu i) ∧ HasT P Z n el (get i) ∧ RelC (allF w) w (get i) (gu i)) ∧ (len ≤ i → get i = Z el) := by
                have : ∀ i, ∃ (g : List C) (u : List Value), (i < len → w.cells? 0 ((⟨b, off, none⟩ : Addr).add (i * P.cellsOf el)) (P.cellsOf el) = some u ∧ HasT P Z n el g ∧ RelC (allF w) w g u) ∧ (len ≤ i → g = Z el) := by
                  intro i
                  by_cases q : i < len
                  · obtain ⟨us', k1, cs, k2, k3⟩ := hi i q
                    exact ⟨cs, us', fun _ => ⟨k1, k2, k3⟩, fun q2 => by omega⟩
                  · exact ⟨Z el, [], fun q2 => absurd q2 q, fun _ => rfl⟩
                exact ⟨fun i => Classical.choose (this i), fun i => Classical.choose (Classical.choose_spec (this i)), fun i => Classical.choose_spec (Classical.choose_spec (this i))⟩
              obtain ⟨get, gu, hgu⟩ := hch
              refine ⟨[.slice len get], ?_, RelC.one rfl ?_⟩
              · simp only [HasT, e]
                exact ⟨len, get, rfl, by omega, fun i hi => ((hgu i).1 hi).2.1, fun i hi => (hgu i).2 hi⟩
              · have hgl : ∀ i, i < len → (get i).length = P.cellsOf el := fun i q => by
                  obtain ⟨k1, k2, k3⟩ := (hgu i).1 q
                  rw [← k3.1]; exact (hcell i _ k1).1
                have hul : ∀ i, i < len → (gu i).length = P.cellsOf el := fun i q => (hcell i _ ((hgu i).1 q).1).1
                have hfl : ∀ m, m ≤ len → (((List.range m).map gu).flatten).length = m * P.cellsOf el := by
                  intro m
                  induction m with
                  | zero => intro _; simp
                  | succ m ihm =>
                    intro hm
                    rw [List.range_succ, List.map_append, List.flatten_append, List.length_append, ihm (by omega)]
                    simp [hul m (by omega), Nat.succ_mul]
                have hfg : ∀ m, m ≤ len → ∀ j u, (((List.range m).map gu).flatten)[j]? = some u → ∃ i k, i < m ∧ k < P.cellsOf el ∧ j = i * P.cellsOf el + k ∧ (gu i)[k]? = some u := by
                  intro m
                  induction m with
                  | zero => intro _ j u hu; simp at hu
                  | succ m ihm =>
                    intro hm j u hu
                    rw [List.range_succ, List.map_append, List.flatten_append] at hu
                    rcases Nat.lt_or_ge j (((List.range m).map gu).flatten).length with q | q
                    · rw [List.getElem?_append_left q] at hu
                      obtain ⟨i, k, k1, k2, k3, k4⟩ := ihm (by omega) j u hu
                      exact ⟨i, k, by omega, k2, k3, k4⟩
                    · rw [List.getElem?_append_right q] at hu
                      rw [hfl m (by omega)] at hu q
                      simp only [List.map_cons, List.map_nil, List.flatten_cons, List.flatten_nil, List.append_nil] at hu
                      have hk := (List.getElem?_eq_some_iff.1 hu).1
                      rw [hul m (by omega)] at hk
                      exact ⟨m, j - m * P.cellsOf el, by omega, hk, by omega, hu⟩
                have hfi : ∀ m, m ≤ len → ∀ i k, i < m → k < P.cellsOf el → (((List.range m).map gu).flatten)[i * P.cellsOf el + k]? = (gu i)[k]? := by
                  intro m
                  induction m with
                  | zero => intro _ i k hi; omega
                  | succ m ihm =>
                    intro hm i k hi hk
                    rw [List.range_succ, List.map_append, List.flatten_append]
                    rcases Nat.lt_or_ge i m with q | q
                    · have : i * P.cellsOf el + k < m * P.cellsOf el := by
                        have := Nat.mul_le_mul_right (P.cellsOf el) (show i + 1 ≤ m from q)
                        rw [Nat.succ_mul] at this; omega
                      rw [List.getElem?_append_left (by rw [hfl m (by omega)]; exact this)]
                      exact ihm (by omega) i k q hk
                    · have : i = m := by omega
                      subst this
                      rw [List.getElem?_append_right (by rw [hfl i (by omega)]; omega), hfl i (by omega)]
                      simp [Nat.add_sub_cancel_left]
                have hadd : ∀ i k, (((⟨b, off, none⟩ : Addr).add (i * P.cellsOf el)).add k) = ⟨b, off + (i * P.cellsOf el + k), none⟩ := by
                  intro i k; rw [addr_add, addr_add, Nat.add_assoc]
                refine .slice (us := ((List.range len).map gu).flatten) (sz := P.cellsOf el) hlc (hfl len (Nat.le_refl _)) hgl (fun j hj => ?_) (fun j u hu => ?_) (fun j u hu => ?_) (fun i j c u hil hc hu => ?_)
                · obtain ⟨k1, _, _⟩ := (hgu 0).1 (by omega)
                  obtain ⟨l1, l2⟩ := hcell 0 _ k1
                  have h3 : (gu 0)[0]? = some ((gu 0)[0]'(by omega)) := List.getElem?_eq_getElem _
                  have h4 := l2 0 _ h3
                  rw [hadd] at h4
                  exact (cell_lt h4).1
                · obtain ⟨i, k, q1, q2, rfl, q4⟩ := hfg len (Nat.le_refl _) j u hu
                  have := (hcell i _ ((hgu i).1 q1).1).2 k u q4
                  rwa [hadd] at this
                · obtain ⟨i, k, q1, q2, rfl, q4⟩ := hfg len (Nat.le_refl _) j u hu
                  obtain ⟨_, _, r1, r2, r3⟩ := (hgu i).1 q1
                  have hk : k < (get i).length := by rw [hgl i q1]; exact q2
                  have := r3 k _ u (List.getElem?_eq_getElem hk) q4
                  exact oneC_sim this (r2 _ (List.getElem_mem hk))
                · have hj : j < P.cellsOf el := by rw [← hgl i hil]; exact (List.getElem?_eq_some_iff.1 hc).1
                  rw [hfi len (Nat.le_refl _) i j hil hj] at hu
                  exact ((hgu i).1 hil).2.2.2.2 j c u hc hu
      · rename_i fs e
        simp only [Bool.and_eq_true] at hty
        obtain ⟨hcon, hall⟩ := hty
        simp only [DataW.trod, e] at h
        split at h <;> try (cases h; done)
        rename_i hlen
        cases e2 : fs.toList.mapM (fun f => DataW.trod enc P w 0 (fun _ => true) held fuel f.type ((us.drop f.offset).take (P.cellsOf f.type))) with
        | none => rw [e2] at h; cases h
        | some xs =>
          clear h
          have key : ∀ (l : List Field) (o : Nat) (ys : List (DataW H × List MemPlace)), contig P o l (P.cellsOf t) = true → l.all (fun f => tyOk P n f.type) = true → l.mapM (fun f => DataW.trod enc P w 0 (fun _ => true) held fuel f.type ((us.drop f.offset).take (P.cellsOf f.type))) = some ys →
              ∃ parts : List (List C), All2 (fun (f : Field) p => HasT P Z n f.type p) l parts ∧ RelC (allF w) w parts.flatten (us.drop o) := by
            intro l
            induction l with
            | nil =>
              intro o ys h1 _ _
              simp only [contig] at h1
              have := Nat.eq_of_beq_eq_true h1
              subst this
              rw [List.drop_eq_nil_of_le (by omega)]
              exact ⟨[], .nil, RelC.nil⟩
            | cons f l ihl =>
              intro o ys h1 h2 h3
              simp only [contig, Bool.and_eq_true] at h1
              obtain ⟨h1a, h1b⟩ := h1
              have hoff := Nat.eq_of_beq_eq_true h1a
              simp only [List.all_cons, Bool.and_eq_true] at h2
              simp only [List.mapM_cons, Option.bind_eq_bind, Option.pure_def] at h3
              obtain ⟨y, h3a, h3b⟩ := Option.bind_eq_some_iff.1 h3
              obtain ⟨ys', h3c, h3d⟩ := Option.bind_eq_some_iff.1 h3b
              obtain ⟨cs, k1, k2⟩ := ih h2.1 h3a
              obtain ⟨parts, k3, k4⟩ := ihl _ ys' h1b h2.2 h3c
              refine ⟨cs :: parts, .cons k1 k3, ?_⟩
              rw [hoff] at k2
              have : us.drop o = (us.drop o).take (P.cellsOf f.type) ++ us.drop (o + P.cellsOf f.type) := by
                rw [← List.drop_drop]; exact (List.take_append_drop _ _).symm
              rw [this, List.flatten_cons]
              exact k2.append k4
          obtain ⟨parts, k1, k2⟩ := key fs.toList 0 xs hcon hall e2
          refine ⟨parts.flatten, ?_, by simpa using k2⟩
          simp only [HasT, e]
          exact ⟨parts, rfl, k1⟩
      · rename_i len el e
        simp only [Bool.and_eq_true] at hty
        obtain ⟨hcon, hel⟩ := hty
        have hcon := Nat.eq_of_beq_eq_true hcon
        simp only [DataW.trod, e] at h
        split at h <;> try (cases h; done)
        rename_i hlen
        cases e2 : (List.range len).mapM (fun i => DataW.trod enc P w 0 (fun _ => true) held fuel el ((us.drop (i * P.cellsOf el)).take (P.cellsOf el))) with
        | none => rw [e2] at h; cases h
        | some xs =>
          clear h
          have key : ∀ (k o : Nat) (ys : List (DataW H × List MemPlace)), o + k = len → (List.range' o k).mapM (fun i => DataW.trod enc P w 0 (fun _ => true) held fuel el ((us.drop (i * P.cellsOf el)).take (P.cellsOf el))) = some ys →
              ∃ parts : List (List C), parts.length = k ∧ (∀ p ∈ parts, HasT P Z n el p) ∧ RelC (allF w) w parts.flatten (us.drop (o * P.cellsOf el)) := by
            intro k
            induction k with
            | zero =>
              intro o ys h1 _
              have : o = len := by omega
              subst this
              rw [List.drop_eq_nil_of_le (by omega)]
              exact ⟨[], rfl, by simp, RelC.nil⟩
            | succ k ihk =>
              intro o ys h1 h3
              rw [List.range'_succ] at h3
              simp only [List.mapM_cons, Option.bind_eq_bind, Option.pure_def] at h3
              obtain ⟨y, h3a, h3b⟩ := Option.bind_eq_some_iff.1 h3
              obtain ⟨ys', h3c, h3d⟩ := Option.bind_eq_some_iff.1 h3b
              obtain ⟨cs, k1, k2⟩ := ih hel h3a
              obtain ⟨parts, k3, k4, k5⟩ := ihk (o + 1) ys' (by omega) h3c
              refine ⟨cs :: parts, by simp [k3], fun p hp => ?_, ?_⟩
              · rcases List.mem_cons.1 hp with rfl | hp
                · exact k1
                · exact k4 p hp
              · have : us.drop (o * P.cellsOf el) = (us.drop (o * P.cellsOf el)).take (P.cellsOf el) ++ us.drop ((o + 1) * P.cellsOf el) := by
                  rw [Nat.succ_mul, ← List.drop_drop]; exact (List.take_append_drop _ _).symm
                rw [this, List.flatten_cons]
                exact k2.append k5
          rw [List.range_eq_range'] at e2
          obtain ⟨parts, k1, k2, k3⟩ := key len 0 xs (by omega) e2
          refine ⟨parts.flatten, ?_, by simpa using k3⟩
          simp only [HasT, e]
          exact ⟨parts, k1, rfl, k2⟩
      · cases hty
end Go.Ab

/-! ## Aj2 -/
namespace Go.Ab
open Go.RowKit Go.WideShapes Go.ChangeShapes

/-- A value of a parameter's type. -/
def ArgT (P : Program) (Z : TypeId → List C) (n : Nat) (t : TypeId) (c : C) : Prop :=
  match P.underlying t with
  | some (.int k) => HasT P Z n t [c]
  | some (.slice e) => HasT P Z n t [c]
  | some (.struct fs) => ∃ cs, c = .agg cs ∧ HasT P Z n t cs
  | _ => False
def argOk (P : Program) (n : Nat) (t : TypeId) : Bool :=
  tyOk P n t && P.readableRec t && Nat.blt t P.types.size && (match P.underlying t with | some (.int _) => true | some (.slice _) => true | some (.struct _) => true | _ => false)

theorem open_arg {P : Program} {Z : TypeId → List C} {n : Nat} {H : Type} {enc : TypeId × Value → H} {w : World} {held : Bool} {b0 : Nat} {t : TypeId} {v : Value} {d : DataW H} {ps : List MemPlace} (hok : argOk P n t = true)
    (hval : Value.okWide P w .any b0 t v) (h : DataW.Trod enc P w 0 (fun _ => true) held t v d ps) : ∃ c, ArgT P Z n t c ∧ VR (allF w) w c v := by
  unfold argOk at hok
  simp only [Bool.and_eq_true] at hok
  obtain ⟨⟨⟨hty, _⟩, _⟩, hk⟩ := hok
  obtain ⟨fuel, hf⟩ := h
  obtain ⟨cs, h1, h2, h3, h4⟩ := open_trod (Z := Z) n hty hf
  split at hk
  · rename_i k e
    obtain ⟨x, rfl⟩ := okWide_int e hval
    have hlen : cs.length = 1 := by rw [← h2]; rfl
    match cs, hlen with
    | [c], _ => exact ⟨c, by unfold ArgT; rw [e]; exact h1, h4 0 c _ rfl rfl⟩
  · rename_i el e
    obtain ⟨a, l, cp, rfl⟩ := okWide_slice e hval
    have hlen : cs.length = 1 := by rw [← h2]; rfl
    match cs, hlen with
    | [c], _ => exact ⟨c, by unfold ArgT; rw [e]; exact h1, h4 0 c _ rfl rfl⟩
  · rename_i fs e
    obtain ⟨us, rfl, _⟩ := okWide_struct e hval
    refine ⟨.agg cs, by unfold ArgT; rw [e]; exact ⟨cs, rfl, h1⟩, ?_⟩
    have := VR.agg (F := allF w) (w := w) (cs := cs) (us := us.toList) h2 h4
    simpa using this
  · cases hk

theorem open_args {P : Program} {Z : TypeId → List C} {n : Nat} {H : Type} {enc : TypeId × Value → H} {w : World} {held : Bool} {b0 : Nat} : ∀ {ts : List TypeId} {vs : List Value} {ds : List (DataW H)} {ps : List MemPlace}, ts.all (argOk P n) = true →
    (∀ (j : Nat) t v, ts[j]? = some t → vs[j]? = some v → Value.okWide P w .any b0 t v) → DataW.TrodAll enc P w 0 (fun _ => true) held ts vs ds ps → ∃ cs, All2 (ArgT P Z n) ts cs ∧ vs.length = cs.length ∧ ∀ (j : Nat) (c : C) (v : Value), cs[j]? = some c → vs[j]? = some v → VR (allF w) w c v := by
  intro ts
  induction ts with
  | nil =>
    intro vs ds ps _ _ h
    obtain ⟨rfl, rfl, rfl⟩ := trodAll_nil h
    exact ⟨[], .nil, rfl, fun j c v hc => by simp at hc⟩
  | cons t ts ih =>
    intro vs ds ps hok hval h
    obtain ⟨v, vs', d, ds', p, q, rfl, rfl, rfl, h1, h2⟩ := trodAll_cons h
    simp only [List.all_cons, Bool.and_eq_true] at hok
    obtain ⟨c, k1, k2⟩ := open_arg (Z := Z) hok.1 (hval 0 t v rfl rfl) h1
    obtain ⟨cs, k3, k4, k5⟩ := ih hok.2 (fun j t v ht hv => hval (j + 1) t v (by simpa using ht) (by simpa using hv)) h2
    refine ⟨c :: cs, .cons k1 k3, by simp [k4], fun j c' v' hc hv => ?_⟩
    cases j with
    | zero => simp at hc hv; subst hc; subst hv; exact k2
    | succ j => simp only [List.getElem?_cons_succ] at hc hv; exact k5 j c' v' hc hv

theorem below_of_ext0 {F F' : Fz} {w w' : World} (x : Ext0 F w F' w') : Below w.heap.size w w' := ⟨x.os, x.tape, x.output, x.size, fun k hk => (x.old k hk).1⟩

/-- A law that the machine answers with true. -/
theorem law_calls {P : Program} {E : Env} {Z : TypeId → List C} {n : Nat} {f : FuncId} {ts : List TypeId} (SP : SoundPure P E) (hlaw : ∀ cs, All2 (ArgT P Z n) ts cs → E.pure f cs = some (.bool true)) {H : Type} {enc : TypeId × Value → H} {w : World} {held : Bool} {b0 : Nat} {args : Array Value} {ds : List (DataW H)} {ps : List MemPlace}
    (hok : ts.all (argOk P n) = true) (hval : ∀ (j : Nat) t v, ts[j]? = some t → args.toList[j]? = some v → Value.okWide P w .any b0 t v) (h : DataW.TrodAll enc P w 0 (fun _ => true) held ts args.toList ds ps) :
    Calls P f args w fun e w' => e = .returned (.bool true) ∧ Below w.heap.size w w' := by
  obtain ⟨cs, h1, h2, h3⟩ := open_args (Z := Z) hok hval h
  obtain ⟨_, hc⟩ := SP f cs _ (hlaw cs h1)
  have := callsIn_wide.1 (hc (allF w) w args.toList h2 h3 (fun b o q => q))
  rw [Array.toArray_toList] at this
  refine this.mono fun e w' he => ?_
  obtain ⟨u, F', rfl, hv, hx⟩ := he
  cases hv
  exact ⟨rfl, below_of_ext0 hx⟩

theorem trodAll_below {P : Program} {n : Nat} (hl : laidOutB P = true) {H : Type} {enc : TypeId × Value → H} {w w' : World} (hb : Below w.heap.size w w') : ∀ {ts : List TypeId} {vs : List Value} {ds : List (DataW H)} {ps : List MemPlace}, ts.all (argOk P n) = true →
    DataW.TrodAll enc P w 0 (fun _ => true) true ts vs ds ps → (∀ x ∈ ps, x.block < w.heap.size) → DataW.TrodAll enc P w' 0 (fun b => decide (b < w.heap.size)) true ts vs ds ps := by
  intro ts
  induction ts with
  | nil =>
    intro vs ds ps _ h _
    obtain ⟨rfl, rfl, rfl⟩ := trodAll_nil h
    exact rfl
  | cons t ts ih =>
    intro vs ds ps hok h hlt
    obtain ⟨v, vs', d, ds', p, q, rfl, rfl, rfl, h1, h2⟩ := trodAll_cons h
    simp only [List.all_cons, Bool.and_eq_true] at hok
    have hok1 := hok.1
    unfold argOk at hok1
    simp only [Bool.and_eq_true] at hok1
    exact ⟨p, q, Below.trod hl hok1.1.1.2 (by simpa [Nat.blt_eq] using hok1.1.2) h1 hb (fun x hx => hlt x (List.mem_append_left _ hx)), ih hok.2 h2 (fun x hx => hlt x (List.mem_append_right _ hx)), rfl⟩

theorem keptBut_below {w w' : World} (hb : Below w.heap.size w w') (may : MemPlace → Prop) : w.keptBut w' may := by
  refine ⟨hb.os, hb.output, fun i hi => ?_⟩
  rw [hb.block i hi]
  have hk := World.keptBut_refl w may
  exact hk.2.2 i hi

theorem law_post {P : Program} {fn : Func} {s : ChangeSpec} {n : Nat} {tb : TypeId} {apart : Bool} (hl : laidOutB P = true) (hok : fn.params.toList.all (argOk P n) = true) (hr : fn.resultTypes = #[tb]) (htb : P.underlying tb = some .bool) (hsv : s.vars = [])
    (hs : ∀ (H : Type) (ds : List (DataW H)), ds.length = fn.params.size → s.fn H ds = { results := [.lit (.bool true)], args := ds }) {H : Type} {enc : TypeId × Value → H} {w w' : World} {args : Array Value} {ds gs : List (DataW H)} {before : List MemPlace}
    (hW : DataW.Whole enc P fn.params.toList s.vars apart w args.toList ds gs before) (hb : Below w.heap.size w w') : s.post enc P fn apart true false false w args (.bool true) w' := by
  have hlt := hW.lt
  have hW' := hW
  obtain ⟨p, q, hA, hV, rfl, hfz, hnd⟩ := hW
  have hg : gs = [] ∧ q = [] := by
    rw [hsv] at hV
    cases gs with
    | nil => exact ⟨rfl, hV⟩
    | cons _ _ => exact hV.elim
  obtain ⟨rfl, rfl⟩ := hg
  have hlen : ds.length = fn.params.size := by
    have : ∀ {ts : List TypeId} {vs : List Value} {ds : List (DataW H)} {ps : List MemPlace}, DataW.TrodAll enc P w 0 (fun _ => true) true ts vs ds ps → ds.length = ts.length := by
      intro ts
      induction ts with
      | nil => intro vs ds ps h; obtain ⟨_, rfl, _⟩ := trodAll_nil h; rfl
      | cons t ts ih => intro vs ds ps h; obtain ⟨v, vs', d, ds', p, q, _, rfl, _, _, h2⟩ := trodAll_cons h; simp [ih h2]
    simpa using this hA
  have e := hs H (ds ++ []) (by simpa using hlen)
  refine ⟨ds, [], _, [], p, [], hW', ?_, ?_, ?_, keptBut_below hb _, fun h => by cases h⟩
  · rw [e, hr]
    exact trodAll_mk1 ⟨1, by simp [DataW.trod, Value.cells, htb]⟩
  · rw [e, List.append_nil]
    exact trodAll_below hl hb hok hA (fun x hx => hlt x (List.mem_append_left _ hx))
  · rw [hsv, e]
    exact rfl
end Go.Ab
