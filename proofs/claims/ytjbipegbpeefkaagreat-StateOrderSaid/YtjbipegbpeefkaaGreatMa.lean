/- An abstract machine over the model's code: its values, its operations, its runs. An abstract machine over the model's code: how each operation and each piece of code runs. An abstract machine over the model's code: functions, calls, loops; the runs with so and so many rounds, and their limit, which obeys plain equations. No statement of the seat is proved here. -/
import Derived.CallsIn

set_option linter.unusedVariables false
/-! ## Ab0 -/
namespace Go.Ab

/-- A value that nothing will write any more: what lies behind a pointer or in a slice is told by content. -/
inductive C where
  | bool (b : Bool)
  | int (k : IntKind) (n : Int)
  | str (s : ByteArray)
  | nilp
  | nilm
  | imm (cs : List C)
  | slice (n : Nat) (get : Nat → List C)
  | nilf
  | func (f : FuncId) (first captured : List C)
  | agg (cs : List C)
  | tuple (vs : List C)
  | map (get : Int → Option (List C))
instance : Inhabited C := ⟨.nilp⟩

/-- What a slot or a written cell holds: a finished value, or a way into the machine's own blocks. -/
inductive O where
  | c (v : C)
  | undef
  | nils
  | ref (d i off : Nat)
  | eref (d i n e off : Nat)
  | arr (d i sz n : Nat)
  | vsl (d i off n sz : Nat)
  | func (f : FuncId) (first captured : List O)
  | agg (cs : List O)
  | tuple (vs : List O)
  | yield (l : Nat)
  | mref (d i : Nat)
instance : Inhabited O := ⟨.undef⟩

/-- A block. 'vars': cells that are written; 'arr': a slice's elements, to which more may come, none of which turns; 'mar': a slice's elements that are written; 'far': such a slice, finished. -/
inductive Blk where
  | none
  | vars (cs : List O)
  | arr (sz n : Nat) (get : Nat → List C)
  | mar (sz n : Nat) (get : Nat → List C)
  | far (sz n : Nat) (get : Nat → List C)
  | map (get : Int → Option (List C))
instance : Inhabited Blk := ⟨.none⟩

abbrev Heap := List (List Blk)
def getB (h : Heap) (d i : Nat) : Blk := (h.getD d []).getD i .none
def setB (h : Heap) (d i : Nat) (b : Blk) : Heap := h.set d ((h.getD d []).set i b)

/-! ### The intermediate code -/
inductive K where
  | bool (b : Bool) | int (k : IntKind) (n : Int) | str (s : ByteArray) | nilp | nils | nilf | nilm
inductive Arg where
  | t (n : Nat) | k (v : K) | f (f : FuncId)
/-- What is needed of a type to bring a value of it to rest: which cells are slices, and an element's cells at zero. -/
abbrev PT := List (Nat × List C)

inductive POp where
  | move (x : Arg)
  | pick (c a b : Arg)
  | build (zero : List O) (parts : List (Nat × Nat × Arg))
  | nilCheck (x : Arg)
  | bin (op : BinOp) (x y : Arg)
  | eqBool (neg : Bool) (x y : Arg)
  | eqNil (neg : Bool) (x : Arg)
  | eqAgg (neg : Bool) (ks : List Bool) (x y : Arg)
  | not (x : Arg)
  | neg (x : Arg)
  | conv (k : IntKind) (x : Arg)
  | field (off : Nat) (n : Option Nat) (x : Arg)
  | fieldAddr (off : Nat) (x : Arg)
  | index (len sz : Nat) (n : Option Nat) (x i : Arg)
  | sindex (x i : Arg)
  | indexAddr (sz : Nat) (x i : Arg)
  | indexAddrArr (len sz : Nat) (x i : Arg)
  | extract (x : Arg) (i : Nat)
  | makeFunc (f : FuncId) (first captured : List Arg)
  | len (x : Arg)
  | alen (n : Nat)
  | minmax (mx : Bool) (x : Arg) (xs : List Arg)
  | sliceArr (len sz : Nat) (x : Arg) (lo hi mx : Option Arg)

inductive HOp where
  | nilArr (mu : Bool) (z : List C)
  | alloc (zero : List O) (sl : PT)
  | box (n : Nat) (sl : PT) (x : Arg)
  | buildSlice (n sz : Nat) (z : List C) (parts : List (Nat × Arg × PT))
  | makeSlice (sz bytes : Nat) (z : List C) (len : Arg)
  | load (n : Option Nat) (a : Arg)
  | store (n : Nat) (sl : PT) (a v : Arg)
  | append (sz lim : Nat) (z : List C) (s x : Arg)
  | clone (mu : Bool) (lim : Nat) (z : List C) (x : Arg)
  | cloneP (lim : Nat) (z : List C) (x : Arg)
  | sort (x : Arg)
  | clear (sz : Nat) (z : List C) (x : Arg)
  | call (f : Arg) (args : List (Arg × PT))
  | callQ (f : Arg) (args : List (Arg × PT))
  | callM (f : Arg) (args : List (Arg × PT))
  | callS (f : FuncId) (args : List (Arg × Nat))
  | slice (sz : Nat) (x : Arg) (lo hi mx : Option Arg)
  | makeMap
  | mlookup (x i : Arg) (n : Option Nat) (zero : List C) (ok : Bool)
  | mapUpdate (m k : Arg) (n : Nat) (v : Arg) (sl : PT)

structure G where
  dst : Option Nat
  guard : Option (Nat × Bool)
  op : POp ⊕ HOp
  an : Nat
  cnt : Nat
  alone : Bool

inductive IC where
  | skip
  | ops (k : Nat) (l : List G) (un : List (Nat × Nat))
  | seq (a b : IC)
  | cond (c : Arg) (a b : IC)
  | block (id : Nat) (a : IC)
  | loop (kill ko : List Nat) (a : IC)
  | loopAt (n : Nat) (kill ko : List Nat) (a : IC)
  | exit (id : Nat)
  | scope (run body : IC)
  | label (l : Nat)
  | goto (l : Nat)
  | ret
  | rangeFunc (f : Arg) (params : List Nat) (assign body : IC)

inductive RV where
  | tmp (t : Nat) (pt : PT)
  | cell (a : Nat) (n : Option Nat) (pt : PT)

structure IFunc where
  nparams : Nat
  ntmps : Nat
  results : List RV
  body : IC
  inl : Bool := false

/-! ### Small functions -/
def K.o : K → O
  | .bool b => .c (.bool b) | .int k n => .c (.int k n) | .str s => .c (.str s) | .nilp => .c .nilp | .nils => .nils | .nilf => .c .nilf | .nilm => .c .nilm
def rd (ts : List O) : Arg → O
  | .t n => ts.getD n .undef
  | .k v => v.o
  | .f f => .c (.func f [] [])
def O.isU : O → Bool
  | .undef => true
  | _ => false
def oneC : C → Bool
  | .agg _ => false
  | .tuple _ => false
  | _ => true
/-- A value that fills one cell. -/
def oneO : O → Bool
  | .undef => false
  | .agg _ => false
  | .tuple _ => false
  | .c v => oneC v
  | _ => true
/-- A place laid out for a block, and none there yet. -/
def fresh (h : Heap) (d i : Nat) : Bool := match (h.getD d [])[i]? with | some .none => true | _ => false
def O.cells : O → List O
  | .c (.agg cs) => cs.map .c
  | .agg cs => cs
  | o => [o]
def allC : List O → Option (List C)
  | [] => some []
  | .c v :: r => match allC r with | some l => some (v :: l) | none => none
  | _ :: _ => none
def mkAgg (cs : List O) : O := match allC cs with | some l => .c (.agg l) | none => .agg cs
def mkTuple (cs : List O) : O := match allC cs with | some l => .c (.tuple l) | none => .tuple cs
/-- A value of one variable out of its cells. -/
def ofCells (n : Option Nat) (cs : List O) : O := match n with | some _ => mkAgg cs | none => cs.headD .undef
def ofCellsC (n : Option Nat) (cs : List C) : O := match n with | some _ => .c (.agg cs) | none => match cs with | c :: _ => .c c | [] => .undef
def ptAt (sl : PT) (j : Nat) : Option (List C) := (sl.find? fun p => p.1 == j).map (·.2)
def nilC (z : List C) : C := .slice 0 (fun _ => z)

/-! #### Slices told by content -/
def sSlice (n : Nat) (get : Nat → List C) (lo m : Nat) : Nat → List C := fun i => if i < m then get (lo + i) else get n
def sAppend (n : Nat) (get : Nat → List C) (get' : Nat → List C) : Nat → List C := fun i => if i < n then get i else get' (i - n)
def sSet (get : Nat → List C) (e : Nat) (cs : List C) : Nat → List C := fun i => if i = e then cs else get i
def sList (z : List C) (l : List (List C)) : Nat → List C := fun i => l.getD i z

def cmpInt (op : BinOp) (a b : Int) : Option Bool :=
  match op with
  | .eql => some (a == b) | .neq => some (a != b) | .lss => some (decide (a < b)) | .leq => some (decide (a ≤ b))
  | .gtr => some (decide (a > b)) | .geq => some (decide (a ≥ b)) | _ => none
def bitsInt (op : BinOp) (k : IntKind) (a b : Int) : Option Int :=
  match op with
  | .and => some (k.wrap (BitVec.ofInt k.bits a &&& BitVec.ofInt k.bits b).toNat)
  | .or => some (k.wrap (BitVec.ofInt k.bits a ||| BitVec.ofInt k.bits b).toNat)
  | .xor => some (k.wrap (BitVec.ofInt k.bits a ^^^ BitVec.ofInt k.bits b).toNat)
  | .andNot => some (k.wrap (BitVec.ofInt k.bits a &&& ~~~ BitVec.ofInt k.bits b).toNat)
  | _ => none
/-- Equality of structs of whole numbers ('true') and bools ('false'), cell by cell. -/
def eqCells : List Bool → List C → List C → Option Bool
  | [], [], [] => some true
  | true :: ks, .int k a :: r, .int k' b :: s => if k = k' then (match eqCells ks r s with | some t => some ((a == b) && t) | none => none) else none
  | false :: ks, .bool a :: r, .bool b :: s => match eqCells ks r s with | some t => some ((a == b) && t) | none => none
  | _, _, _ => none
end Go.Ab

/-! ## Ab1 -/
namespace Go.Ab

inductive Ex where
  | normal | exit (id : Nat) | goto (l : Nat) | ret

structure LoopRec where
  d : Nat
  ts : List O
  params : List Nat
  assign : IC
  body : IC
  pend : Option Ex

structure St where
  fr : Heap
  lp : List LoopRec := []

structure Env where
  pure : FuncId → List C → Option C
  rich : Nat → FuncId → List O → St → Option (O × St)
  round : Nat → List O → St → Option (O × St)
  code : Nat → IC → List O → St → Option (Ex × List O × St)
  inl : FuncId → Bool

/-! ### Operations that leave memory alone -/
section
variable {α : Type} (ts : List O) (k : O → Option α)

def ofBool (r : Option Bool) : Option α := match r with | some b => k (.c (.bool b)) | none => none
def bound (len : Nat) (i : O) (f : Nat → Option α) : Option α :=
  match i with
  | .c (.int _ i) => if 0 ≤ i ∧ i < (len : Int) then f i.toNat else none
  | _ => none
/-- An optional bound of a slice expression: its value where it stands, between 0 and 'top'. -/
def sbound (x : Option Arg) (dflt top : Nat) (f : Nat → Option α) : Option α :=
  match x with
  | none => f dflt
  | some a => match rd ts a with
    | .c (.int _ i) => if 0 ≤ i ∧ i ≤ (top : Int) then f i.toNat else none
    | _ => none
def minmaxF (mx : Bool) (kd : IntKind) : Int → List Arg → Option α
  | a, [] => k (.c (.int kd a))
  | a, y :: r => match rd ts y with
    | .c (.int _ b) => minmaxF mx kd (if mx then (if b > a then b else a) else (if b < a then b else a)) r
    | _ => none
def fillCells (ts : List O) : List (Nat × Nat × Arg) → List O → Option (List O)
  | [], cs => some cs
  | (off, n, a) :: r, cs =>
    if (rd ts a).isU = false ∧ (rd ts a).cells.length = n ∧ off + n ≤ cs.length then fillCells ts r (cs.take off ++ (rd ts a).cells ++ cs.drop (off + n)) else none
def sliceP (sz : Nat) (x : O) (lo hi mx : Option Arg) : Option α :=
  match x with
  | .c (.slice n get) => match mx with
    | none => if (get 0).length = sz ∨ n = 0 then sbound ts hi n n fun h => sbound ts lo 0 h fun l => k (.c (.slice (h - l) (sSlice n get l (h - l)))) else none
    | some _ => none
  | .nils => match mx with
    | none => sbound ts hi 0 0 fun h => sbound ts lo 0 h fun _ => k .nils
    | some _ => none
  | .vsl d i off n sz' => match mx with
    | none => if sz' = sz then sbound ts hi n n fun h => sbound ts lo 0 h fun l => k (.vsl d i (off + l * sz) (h - l) sz) else none
    | some _ => none
  | _ => none
def sliceA (len sz : Nat) (x : O) (lo hi mx : Option Arg) : Option α :=
  match x with
  | .ref d i off => match mx with
    | none => sbound ts hi len len fun h => sbound ts lo 0 h fun l => k (.vsl d i (off + l * sz) (h - l) sz)
    | some _ => none
  | _ => none

def pureSem : POp → Option α
  | .move x => k (rd ts x)
  | .pick c a b => match rd ts c with
    | .c (.bool t) => if t = true then k (rd ts a) else k (rd ts b)
    | _ => none
  | .build zero parts => match fillCells ts parts zero with
    | some cs => k (mkAgg cs)
    | none => none
  | .nilCheck x => match rd ts x with
    | .c (.imm cs) => k (.c (.imm cs))
    | .ref d i off => k (.ref d i off)
    | .eref d i n e off => k (.eref d i n e off)
    | .c (.func f a b) => k (.c (.func f a b))
    | .func f a b => k (.func f a b)
    | .yield l => k (.yield l)
    | _ => none
  | .bin op x y => match rd ts x, rd ts y with
    | .c (.int kx a), .c (.int ky b) =>
      match op with
      | .shl => if 0 ≤ b then k (.c (.int kx (kx.wrap (a * 2 ^ (min b.toNat kx.bits))))) else none
      | .shr => if 0 ≤ b then k (.c (.int kx (a.fdiv (2 ^ (min b.toNat kx.bits))))) else none
      | .add => if kx = ky then k (.c (.int kx (kx.wrap (a + b)))) else none
      | .sub => if kx = ky then k (.c (.int kx (kx.wrap (a - b)))) else none
      | .mul => if kx = ky then k (.c (.int kx (kx.wrap (a * b)))) else none
      | .quo => if kx = ky then (if b = 0 then none else k (.c (.int kx (kx.wrap (a.tdiv b))))) else none
      | .rem => if kx = ky then (if b = 0 then none else k (.c (.int kx (a.tmod b)))) else none
      | .and | .or | .xor | .andNot => if kx = ky then (match bitsInt op kx a b with | some r => k (.c (.int kx r)) | none => none) else none
      | _ => if kx = ky then ofBool k (cmpInt op a b) else none
    | _, _ => none
  | .eqBool ng x y => match rd ts x, rd ts y with
    | .c (.bool a), .c (.bool b) => k (.c (.bool (if ng then !(a == b) else (a == b))))
    | _, _ => none
  | .eqNil ng x => match rd ts x with
    | .c .nilp => k (.c (.bool (!ng)))
    | .c (.imm _) => k (.c (.bool ng))
    | .ref _ _ _ => k (.c (.bool ng))
    | _ => none
  | .eqAgg ng ks x y => match rd ts x, rd ts y with
    | .c (.agg a), .c (.agg b) => match eqCells ks a b with
      | some t => k (.c (.bool (if ng then !t else t)))
      | none => none
    | _, _ => none
  | .not x => match rd ts x with
    | .c (.bool b) => k (.c (.bool (!b)))
    | _ => none
  | .neg x => match rd ts x with
    | .c (.int kd n) => k (.c (.int kd (kd.wrap (0 - n))))
    | _ => none
  | .conv kd x => match rd ts x with
    | .c (.int _ n) => k (.c (.int kd (kd.wrap n)))
    | _ => none
  | .field off n x => match rd ts x with
    | .c (.agg cs) => if off + n.getD 1 ≤ cs.length then k (ofCellsC n ((cs.drop off).take (n.getD 1))) else none
    | .agg cs => if off + n.getD 1 ≤ cs.length then k (ofCells n ((cs.drop off).take (n.getD 1))) else none
    | _ => none
  | .fieldAddr off x => match rd ts x with
    | .c (.imm cs) => k (.c (.imm (cs.drop off)))
    | .ref d i o => k (.ref d i (o + off))
    | .eref d i n e o => k (.eref d i n e (o + off))
    | _ => none
  | .index len sz n x i => match rd ts x with
    | .c (.agg cs) => bound len (rd ts i) fun j => if j * sz + n.getD 1 ≤ cs.length then k (ofCellsC n ((cs.drop (j * sz)).take (n.getD 1))) else none
    | _ => none
  | .sindex x i => match rd ts x, rd ts i with
    | .c (.str s), .c (.int _ i) => if 0 ≤ i then (match s[i.toNat]? with | some b => k (.c (.int .u8 b.toNat)) | none => none) else none
    | _, _ => none
  | .indexAddr sz x i => match rd ts x with
    | .c (.slice n get) => bound n (rd ts i) fun j => if (get j).length = sz then k (.c (.imm (get j))) else none
    | .arr d b sz' n => if sz' = sz then bound n (rd ts i) fun j => k (.eref d b n j 0) else none
    | .vsl d b off n sz' => if sz' = sz then bound n (rd ts i) fun j => k (.ref d b (off + j * sz)) else none
    | _ => none
  | .indexAddrArr len sz x i => match rd ts x with
    | .c (.imm cs) => bound len (rd ts i) fun j => k (.c (.imm (cs.drop (j * sz))))
    | .ref d b o => bound len (rd ts i) fun j => k (.ref d b (o + j * sz))
    | .eref d b n e o => bound len (rd ts i) fun j => k (.eref d b n e (o + j * sz))
    | _ => none
  | .extract x i => match rd ts x with
    | .c (.tuple vs) => match vs[i]? with | some v => k (.c v) | none => none
    | .tuple vs => match vs[i]? with | some v => k v | none => none
    | _ => none
  | .makeFunc f fi ca => match allC (fi.map (rd ts)), allC (ca.map (rd ts)) with
    | some a, some b => k (.c (.func f a b))
    | _, _ => k (.func f (fi.map (rd ts)) (ca.map (rd ts)))
  | .len x => match rd ts x with
    | .c (.slice n _) => k (.c (.int .i64 (n : Int)))
    | .nils => k (.c (.int .i64 0))
    | .arr _ _ _ n => k (.c (.int .i64 (n : Int)))
    | .vsl _ _ _ n _ => k (.c (.int .i64 (n : Int)))
    | _ => none
  | .alen n => k (.c (.int .i64 (n : Int)))
  | .minmax mx x xs => match rd ts x with
    | .c (.int kd a) => minmaxF ts k mx kd a xs
    | _ => none
  | .sliceArr len sz x lo hi mx => sliceA ts k len sz (rd ts x) lo hi mx
end

/-! ### Operations on memory -/
/-- nil slices about to be kept in written cells become empty rows of their own. -/
def nilFix (d at_ : Nat) : PT → List O → Heap → Option (List O × Heap)
  | [], cs, h => some (cs, h)
  | (j, z) :: r, cs, h => match cs[j]? with
    | some .nils => if fresh h d at_ = true then nilFix d (at_ + 1) r (cs.set j (.arr d at_ z.length 0)) (setB h d at_ (.arr z.length 0 fun _ => z)) else none
    | _ => nilFix d (at_ + 1) r cs h

def noNils : O → Bool
  | .nils => false
  | _ => true
def depthOk : Nat → Nat → O → Bool
  | _, _, .c _ => true
  | _, _, .undef => true
  | _, _, .nils => true
  | _, m, .ref d _ _ => decide (d ≤ m)
  | _, m, .eref d _ _ _ _ => decide (d ≤ m)
  | _, m, .arr d _ _ _ => decide (d ≤ m)
  | _, m, .vsl d _ _ _ _ => decide (d ≤ m)
  | _, m, .mref d _ => decide (d ≤ m)
  | 0, _, _ => false
  | n + 1, m, .func _ a b => a.all (depthOk n m) && b.all (depthOk n m)
  | n + 1, m, .agg cs => cs.all (depthOk n m)
  | n + 1, m, .tuple cs => cs.all (depthOk n m)
  | _ + 1, _, .yield _ => false

/-- What a slice holds, told by content; rows that are written are finished by it, where that is allowed. -/
def arrC (ok : Bool) (h : Heap) (d i n : Nat) : Option (C × Heap) :=
  match getB h d i with
  | .arr _ n' get => if n = n' then some (.slice n get, h) else if n < n' then some (.slice n (sSlice n' get 0 n), h) else none
  | .mar sz n' get => if ok = true ∧ n = n' then some (.slice n get, setB h d i (.far sz n get)) else none
  | .far _ n' get => if n = n' then some (.slice n get, h) else none
  | _ => none
def restCells (ok : Bool) (sl : PT) : Nat → List O → Heap → Option (List O × Heap)
  | _, [], h => some ([], h)
  | j, .nils :: r, h => match ptAt sl j with
    | some z => match restCells ok sl (j + 1) r h with | some (l, h) => some (.c (nilC z) :: l, h) | none => none
    | none => none
  | j, .arr d i _ n :: r, h => match arrC ok h d i n with
    | some (v, h) => match restCells ok sl (j + 1) r h with | some (l, h) => some (.c v :: l, h) | none => none
    | none => none
  | j, o :: r, h => match restCells ok sl (j + 1) r h with | some (l, h) => some (o :: l, h) | none => none
def restO (ok : Bool) (sl : PT) (o : O) (h : Heap) : Option (O × Heap) :=
  match o with
  | .agg cs => match restCells ok sl 0 cs h with | some (l, h) => some (mkAgg l, h) | none => none
  | .nils => match ptAt sl 0 with | some z => some (.c (nilC z), h) | none => none
  | .arr d i _ n => match arrC ok h d i n with | some (v, h) => some (.c v, h) | none => none
  | o => some (o, h)
def restArgs (ok : Bool) (ts : List O) : List (Arg × PT) → Heap → Option (List O × Heap)
  | [], h => some ([], h)
  | (a, sl) :: r, h => match restO ok sl (rd ts a) h with
    | some (o, h) => match restArgs ok ts r h with | some (l, h) => some (o :: l, h) | none => none
    | none => none

/-- What a slice holds. -/
def content (ok : Bool) (z : List C) (h : Heap) : O → Option (Nat × (Nat → List C) × Heap)
  | .c (.slice n get) => some (n, get, h)
  | .nils => some (0, fun _ => z, h)
  | .arr d i _ n => match arrC ok h d i n with
    | some (.slice n get, h) => some (n, get, h)
    | _ => none
  | _ => none

def sortC (n : Nat) (get : Nat → List C) : Nat → List C :=
  let l : List Int := (List.range n).map fun i => match get i with | [.int _ a] => a | _ => 0
  let s := l.mergeSort (fun a b => decide (a ≤ b))
  fun i => [.int .i64 (s.getD i 0)]

/-- The blocks that a value leads to. -/
def refB : Nat → O → List (Nat × Nat)
  | _, .ref d i _ => [(d, i)]
  | _, .eref d i _ _ _ => [(d, i)]
  | _, .arr d i _ _ => [(d, i)]
  | _, .vsl d i _ _ _ => [(d, i)]
  | _, .mref d i => [(d, i)]
  | f + 1, .func _ a b => a.flatMap (refB f) ++ b.flatMap (refB f)
  | f + 1, .agg cs => cs.flatMap (refB f)
  | f + 1, .tuple cs => cs.flatMap (refB f)
  | _, _ => []
def HOp.args : HOp → List Arg
  | .nilArr _ _ => []
  | .alloc _ _ => []
  | .box _ _ x => [x]
  | .buildSlice _ _ _ parts => parts.map (·.2.1)
  | .makeSlice _ _ _ x => [x]
  | .load _ a => [a]
  | .store _ _ a v => [a, v]
  | .append _ _ _ s x => [s, x]
  | .clone _ _ _ x => [x]
  | .cloneP _ _ x => [x]
  | .sort x => [x]
  | .clear _ _ x => [x]
  | .call f args => f :: args.map (·.1)
  | .callQ f args => f :: args.map (·.1)
  | .callM f args => f :: args.map (·.1)
  | .callS _ args => args.map (·.1)
  | .slice _ x lo hi mx => x :: (lo.toList ++ hi.toList ++ mx.toList)
  | .makeMap => []
  | .mlookup x i _ _ _ => [x, i]
  | .mapUpdate m i _ v _ => [m, i, v]
/-- The blocks that an operation may come to. -/
def fpR (ts : List O) (op : HOp) : List (Nat × Nat) := op.args.flatMap fun x => refB 9 (rd ts x)
/-- The blocks that it may write. -/
def fpW (d base : Nat) (g : G) (ts : List O) (op : HOp) : List (Nat × Nat) :=
  (List.range g.cnt).map (fun j => (d, base + g.an + j)) ++
  (match op with
  | .store _ _ a _ => refB 9 (rd ts a)
  | .append _ _ _ x _ => refB 9 (rd ts x)
  | .callM f args => (f :: args.map (·.1)).flatMap fun x => refB 9 (rd ts x)
  | _ => [])

section
variable {α : Type} (E : Env) (d base : Nat) (g : G) (ts : List O) (s : St) (k : O → St → Option α)

def loadAt (n : Option Nat) : O → Option α
  | .c (.imm cs) => if n.getD 1 ≤ cs.length then k (ofCellsC n (cs.take (n.getD 1))) s else none
  | .ref dd i off => match getB s.fr dd i with
    | .vars cs => if off + n.getD 1 ≤ cs.length then k (ofCells n ((cs.drop off).take (n.getD 1))) s else none
    | _ => none
  | .eref dd i m e off => match getB s.fr dd i with
    | .arr _ m' get => if m ≤ m' ∧ e < m ∧ off + n.getD 1 ≤ (get e).length then k (ofCellsC n (((get e).drop off).take (n.getD 1))) s else none
    | .mar _ m' get => if m = m' ∧ e < m ∧ off + n.getD 1 ≤ (get e).length then k (ofCellsC n (((get e).drop off).take (n.getD 1))) s else none
    | .far _ m' get => if m = m' ∧ e < m ∧ off + n.getD 1 ≤ (get e).length then k (ofCellsC n (((get e).drop off).take (n.getD 1))) s else none
    | _ => none
  | _ => none

def storeAt (n : Nat) (sl : PT) (v : O) : O → Option α
  | .ref dd i off => match getB s.fr dd i with
    | .vars cs =>
      if v.cells.length = n ∧ off + n ≤ cs.length ∧ (v.cells.all oneO) = true ∧ (v.cells.all (depthOk 9 dd)) = true ∧ (d ≤ dd ∨ (v.cells.all noNils) = true) then
        (match nilFix d (base + g.an) sl v.cells s.fr with
        | some (l, h) => k .undef { s with fr := setB h dd i (.vars (cs.take off ++ l ++ cs.drop (off + n))) }
        | none => none)
      else none
    | _ => none
  | .eref dd i m e off => if g.alone = true then (match restCells true sl 0 v.cells s.fr with
    | some (l, h) => match allC l with
      | some l => match getB h dd i with
        | .mar sz m' get =>
          if m = m' ∧ e < m ∧ l.length = n ∧ off + n ≤ (get e).length ∧ (l.all oneC) = true then
            k .undef { s with fr := setB h dd i (.mar sz m' (sSet get e ((get e).take off ++ l ++ (get e).drop (off + n)))) }
          else none
        | _ => none
      | none => none
    | none => none) else none
  | _ => none

def appendAt (sz lim : Nat) (z : List C) (x : O) : O → Option α
  | .nils => match content g.alone z s.fr x with
    | some (m, get, h) => if ((get 0).length = sz ∨ m = 0) ∧ m ≤ lim ∧ fresh h d (base + g.an) = true then k (.arr d (base + g.an) sz m) { s with fr := setB h d (base + g.an) (.arr sz m get) } else none
    | none => none
  | .arr dd i _ n => match content g.alone z s.fr x with
    | some (m, get', h) => match getB h dd i with
      | .arr sz' n' get => if ((get' 0).length = sz ∨ m = 0) ∧ sz' = sz ∧ n' = n ∧ n + m ≤ lim then k (.arr dd i sz (n + m)) { s with fr := setB h dd i (.arr sz (n + m) (sAppend n get get')) } else none
      | .mar sz' n' get => if ((get' 0).length = sz ∨ m = 0) ∧ sz' = sz ∧ n' = n ∧ n + m ≤ lim then k (.arr dd i sz (n + m)) { s with fr := setB h dd i (.mar sz (n + m) (sAppend n get get')) } else none
      | _ => none
    | none => none
  | _ => none

/-- The blocks of an activation that a value leads to. -/
def refIds : Nat → Nat → O → List Nat
  | _, d, .ref dd i _ => if dd = d then [i] else []
  | _, d, .eref dd i _ _ _ => if dd = d then [i] else []
  | _, d, .arr dd i _ _ => if dd = d then [i] else []
  | _, d, .vsl dd i _ _ _ => if dd = d then [i] else []
  | _, d, .mref dd i => if dd = d then [i] else []
  | 0, _, _ => []
  | f + 1, d, .func _ a b => a.flatMap (refIds f d) ++ b.flatMap (refIds f d)
  | f + 1, d, .agg cs => cs.flatMap (refIds f d)
  | f + 1, d, .tuple cs => cs.flatMap (refIds f d)
  | _ + 1, _, _ => []
/-- Does a value lead to blocks of the list alone? -/
def inO (ids : List Nat) : Nat → O → Bool
  | _, .c _ => true
  | _, .undef => true
  | _, .nils => true
  | _, .ref d i _ => d == 0 && ids.contains i
  | _, .eref d i _ _ _ => d == 0 && ids.contains i
  | _, .arr d i _ _ => d == 0 && ids.contains i
  | _, .vsl d i _ _ _ => d == 0 && ids.contains i
  | _, .mref d i => d == 0 && ids.contains i
  | 0, _ => false
  | f + 1, .func _ a b => a.all (inO ids f) && b.all (inO ids f)
  | f + 1, .agg cs => cs.all (inO ids f)
  | f + 1, .tuple cs => cs.all (inO ids f)
  | _ + 1, .yield _ => false
/-- Does all that a block holds? -/
def inB (ids : List Nat) : Blk → Bool
  | .none => false
  | .vars cs => cs.all (inO ids 9)
  | _ => true
def idsOf (l : List O) : List Nat := l.flatMap (refIds 9 0)
def maskB : Nat → List Nat → List Blk → List Blk
  | _, _, [] => []
  | j, ids, b :: r => (if ids.contains j = true then b else .none) :: maskB (j + 1) ids r
/-- Blocks laid into memory. -/
def setsB (h : Heap) (upd : List (Nat × Nat × Blk)) : Heap := upd.foldl (fun h u => setB h u.1 u.2.1 u.2.2) h
/-- Arguments for a call that only reads: what lies behind a pointer, as it is now. -/
def snapArgs (ts : List O) (h : Heap) : List (Arg × Nat) → Option (List C)
  | [] => some []
  | (a, n) :: r => match (match rd ts a with
    | .c v => some v
    | .ref d i off => (match getB h d i with
      | .vars cs => if off + n ≤ cs.length then (allC ((cs.drop off).take n)).map .imm else none
      | _ => none)
    | _ => none) with
    | some v => match snapArgs ts h r with | some l => some (v :: l) | none => none
    | none => none
/-- A value without a way to memory. -/
def flatC : C → Bool
  | .bool _ => true
  | .int _ _ => true
  | .agg cs => cs.all fun c => match c with | .bool _ => true | .int _ _ => true | _ => false
  | _ => false
def splitO : O → Option (FuncId × List O × List O)
  | .c (.func f a b) => some (f, a.map .c, b.map .c)
  | .func f a b => some (f, a, b)
  | _ => none
def mapOf (h : Heap) : O → Option (Int → Option (List C))
  | .c (.map f) => some f
  | .mref dd b => match getB h dd b with
    | .map f => some f
    | _ => none
  | _ => none
def partsS (ok : Bool) (sz : Nat) (ts : List O) : List (Nat × Arg × PT) → List (List C) → Heap → Option (List (List C) × Heap)
  | [], l, h => some (l, h)
  | (i, a, sl) :: r, l, h => match restCells ok sl 0 (rd ts a).cells h with
    | some (cs, h) => match allC cs with
      | some cs => if i < l.length ∧ cs.length = sz ∧ (cs.all oneC) = true then partsS ok sz ts r (l.set i cs) h else none
      | none => none
    | none => none
def partsV (sz : Nat) (ts : List O) : List (Nat × Arg × PT) → List O → Option (List O)
  | [], cs => some cs
  | (i, a, _) :: r, cs =>
    if (rd ts a).cells.length = sz ∧ ((rd ts a).cells.all oneO) = true ∧ i * sz + sz ≤ cs.length then partsV sz ts r (cs.take (i * sz) ++ (rd ts a).cells ++ cs.drop (i * sz + sz)) else none

def heapSem : HOp → Option α
  | .nilArr mu z => if fresh s.fr d (base + g.an) = true then k (.arr d (base + g.an) z.length 0) { s with fr := setB s.fr d (base + g.an) (if mu = true then .mar z.length 0 (fun _ => z) else .arr z.length 0 (fun _ => z)) } else none
  | .alloc zero sl => match nilFix d (base + g.an + 1) sl zero s.fr with
    | some (cs, h) => if fresh h d (base + g.an) = true then k (.ref d (base + g.an) 0) { s with fr := setB h d (base + g.an) (.vars cs) } else none
    | none => none
  | .box n sl x => if (rd ts x).cells.length = n ∧ ((rd ts x).cells.all oneO) = true ∧ ((rd ts x).cells.all (depthOk 9 d)) = true then (match nilFix d (base + g.an + 1) sl (rd ts x).cells s.fr with
    | some (cs, h) => if fresh h d (base + g.an) = true then k (.ref d (base + g.an) 0) { s with fr := setB h d (base + g.an) (.vars cs) } else none
    | none => none) else none
  | .buildSlice n sz z parts => match partsS g.alone sz ts parts (List.replicate n z) s.fr with
    | some (l, h) => if fresh h d (base + g.an) = true then k (.arr d (base + g.an) sz n) { s with fr := setB h d (base + g.an) (.arr sz n (sList z l)) } else none
    | none => match partsV sz ts parts ((List.replicate n (z.map O.c)).flatten) with
      | some cs => if (cs.all (depthOk 9 d)) = true ∧ fresh s.fr d (base + g.an) = true then k (.vsl d (base + g.an) 0 n sz) { s with fr := setB s.fr d (base + g.an) (.vars cs) } else none
      | none => none
  | .makeSlice sz bytes z len => match rd ts len with
    | .c (.int _ n) => if 0 ≤ n ∧ n * (bytes : Int) ≤ 140737488355328 ∧ fresh s.fr d (base + g.an) = true then
        k (.arr d (base + g.an) sz n.toNat) { s with fr := setB s.fr d (base + g.an) (.mar sz n.toNat fun _ => z) } else none
    | _ => none
  | .load n a => loadAt s k n (rd ts a)
  | .store n sl a v => storeAt d base g s k n sl (rd ts v) (rd ts a)
  | .append sz lim z x y => appendAt d base g s k sz lim z (rd ts y) (rd ts x)
  | .clone mu lim z x => match content g.alone z s.fr (rd ts x) with
    | some (m, get, h) => if ((get 0).length = z.length ∨ m = 0) ∧ m ≤ lim ∧ fresh h d (base + g.an) = true then k (.arr d (base + g.an) z.length m) { s with fr := setB h d (base + g.an) (if mu = true then .mar z.length m get else .arr z.length m get) } else none
    | none => none
  | .cloneP lim z x => match content g.alone z s.fr (rd ts x) with
    | some (m, get, h) => if ((get 0).length = z.length ∨ m = 0) ∧ m ≤ lim then k (.c (.slice m get)) { s with fr := h } else none
    | none => none
  | .sort x => match rd ts x with
    | .arr dd i _ n => match getB s.fr dd i with
      | .mar sz n' get => if sz = 1 ∧ n' = n then k (.c (.tuple [])) { s with fr := setB s.fr dd i (.mar sz n (sortC n get)) } else none
      | _ => none
    | _ => none
  | .clear sz z x => match rd ts x with
    | .vsl dd i off n sz' => if sz' = sz then (match getB s.fr dd i with
      | .vars cs => if off + n * sz ≤ cs.length then k (.c (.tuple [])) { s with fr := setB s.fr dd i (.vars (cs.take off ++ (List.replicate n (z.map O.c)).flatten ++ cs.drop (off + n * sz))) } else none
      | _ => none) else none
    | _ => none
  | .call f args => match rd ts f with
    | .yield l => match restArgs true ts args s.fr with
      | some (os, h) => match E.round l os { s with fr := h } with
        | some (o, s) => k o s
        | none => none
      | none => none
    | fo => match splitO fo with
      | some (f, a, b) =>
        if E.inl f = true then (match E.rich d f (a ++ args.map (fun p => rd ts p.1) ++ b) s with
          | some (o, s) => k o s
          | none => none)
        else (match restArgs true ts args s.fr with
          | some (os, h) => match allC (a ++ os ++ b) with
            | some l => match E.pure f l with
              | some v => k (.c v) { s with fr := h }
              | none => none
            | none => match E.rich d f (a ++ os ++ b) { s with fr := h } with
              | some (o, s) => k o s
              | none => none
          | none => none)
      | none => none
  | .callQ f args => match rd ts f with
    | .c (.func f a b) => match restArgs false ts args s.fr with
      | some (os, _) => match allC os with
        | some l => match E.pure f (a ++ l ++ b) with
          | some v => k (.c v) s
          | none => none
        | none => none
      | none => none
    | _ => none
  | .callM f0 args => match splitO (rd ts f0), restArgs false ts args s.fr with
    | some (f, a, b), some (os, _) =>
      (match allC (a ++ os ++ b) with
      | some l => match E.pure f l with
        | some v => k (.c v) s
        | none => none
      | none =>
        if d = 0 ∧ s.fr.length = 1 ∧ E.inl f = false ∧ (a ++ os ++ b).all (inO (idsOf (a ++ os ++ b)) 9) = true ∧ (idsOf (a ++ os ++ b)).all (fun i => (fpW d base g ts (.callM f0 args)).contains (0, i) && inB (idsOf (a ++ os ++ b)) (getB s.fr 0 i)) = true then
          (match E.rich 0 f (a ++ os ++ b) { fr := [maskB 0 (idsOf (a ++ os ++ b)) (s.fr.getD 0 [])] } with
          | some (.c v, s') => if (idsOf (a ++ os ++ b)).all (fun i => inB (idsOf (a ++ os ++ b)) (getB s'.fr 0 i)) = true then k (.c v) { s with fr := setsB s.fr ((idsOf (a ++ os ++ b)).map fun i => (0, i, getB s'.fr 0 i)) } else none
          | _ => none)
        else none)
    | _, _ => none
  | .callS f args => match snapArgs ts s.fr args with
    | some l => match E.pure f l with
      | some v => if flatC v = true then k (.c v) s else none
      | none => none
    | none => none
  | .slice sz x lo hi mx => match rd ts x with
    | .nils => sliceP ts (fun v => k v s) sz .nils lo hi mx
    | o => match restO g.alone [] o s.fr with
      | some (o, h) => sliceP ts (fun v => k v { s with fr := h }) sz o lo hi mx
      | none => none
  | .makeMap => if fresh s.fr d (base + g.an) = true then k (.mref d (base + g.an)) { s with fr := setB s.fr d (base + g.an) (.map fun _ => none) } else none
  | .mlookup x i n zero ok => match rd ts i with
    | .c (.int _ j) =>
      (match mapOf s.fr (rd ts x) with
      | some f => match f j with
        | some cs => if ok = true then k (mkTuple [ofCellsC n cs, .c (.bool true)]) s else k (ofCellsC n cs) s
        | none => if ok = true then k (mkTuple [ofCellsC n zero, .c (.bool false)]) s else k (ofCellsC n zero) s
      | none => none)
    | _ => none
  | .mapUpdate m i n v sl => match rd ts m, rd ts i, restCells true sl 0 (rd ts v).cells s.fr with
    | .mref dd b, .c (.int _ j), some (l, h) => match allC l, getB h dd b with
      | some l, .map f => if l.length = n then k .undef { s with fr := setB h dd b (.map fun i => if i = j then some l else f i) } else none
      | _, _ => none
    | _, _, _ => none

/-- One operation with its guard; 'k' is handed the slots and the state behind it. -/
def putO (ts : List O) (dst : Option Nat) (o : O) : List O := match dst with | some t => ts.set t o | none => ts
end

/-- May an operation stand beside others in open order? -/
def okOpen : HOp → Bool
  | .call _ _ => false
  | .sort _ => false
  | .clear _ _ _ => false
  | .mapUpdate _ _ _ _ _ => false
  | _ => true
/-- What a slot holds whose operation was passed by. -/
def skipO : O := .c (.tuple [])
def opSem {α : Type} (E : Env) (d base : Nat) (g : G) (ts : List O) (s : St) (k : List O → St → Option α) : Option α :=
  let go (ts : List O) : Option α := match g.op with
    | .inl op => pureSem ts (fun o => k (putO ts g.dst o) s) op
    | .inr op => if g.alone = true ∨ okOpen op = true then heapSem E d base g ts s (fun o s => k (putO ts g.dst o) s) op else none
  match g.guard with
  | none => go ts
  | some (t, w) => match ts.getD t .undef with
    | .c (.bool b) =>
      if b = true then
        (match w with
        | true => go (ts.set t (.c (.bool true)))
        | false => k (putO (ts.set t (.c (.bool true))) g.dst skipO) s)
      else
        (match w with
        | false => go (ts.set t (.c (.bool false)))
        | true => k (putO (ts.set t (.c (.bool false))) g.dst skipO) s)
    | .c (.tuple []) => k (putO ts g.dst skipO) s
    | _ => none

def opsSem {α : Type} (E : Env) (d base : Nat) : List G → List O → St → (List O → St → Option α) → Option α
  | [], ts, s, k => k ts s
  | g :: r, ts, s, k => opSem E d base g ts s fun ts s => opsSem E d base r ts s k

/-! ### Code -/
def findL : IC → Nat → Option IC
  | .seq a b, l => match findL a l with
    | some rest => some (.seq rest b)
    | none => findL b l
  | .label l', l => if l' == l then some .skip else none
  | _, _ => none
def killTs : List Nat → List O → List O
  | [], ts => ts
  | t :: r, ts => killTs r (ts.set t .undef)
def frameLen (s : St) (d : Nat) : Nat := (s.fr.getD d []).length
def pushB (s : St) (d k : Nat) : St := { s with fr := s.fr.set d (s.fr.getD d [] ++ List.replicate k .none) }
/-- Does a slot still lead to the activation's own blocks from 'n' on? -/
def lowOk : Nat → Nat → Nat → O → Bool
  | _, _, _, .c _ => true
  | _, _, _, .undef => true
  | _, _, _, .nils => true
  | _, d, n, .ref dd i _ => dd != d || decide (i < n)
  | _, d, n, .eref dd i _ _ _ => dd != d || decide (i < n)
  | _, d, n, .arr dd i _ _ => dd != d || decide (i < n)
  | _, d, n, .vsl dd i _ _ _ => dd != d || decide (i < n)
  | _, d, n, .mref dd i => dd != d || decide (i < n)
  | 0, _, _, _ => false
  | f + 1, d, n, .func _ a b => a.all (lowOk f d n) && b.all (lowOk f d n)
  | f + 1, d, n, .agg cs => cs.all (lowOk f d n)
  | f + 1, d, n, .tuple cs => cs.all (lowOk f d n)
  | _ + 1, _, _, .yield _ => false
def lowBlk (d n : Nat) : Blk → Bool
  | .vars cs => cs.all (lowOk 9 d n)
  | _ => true
/-- The activation's blocks from 'n' on are let go, if nothing leads there any more. -/
def cut (d n : Nat) (ts : List O) (s : St) : Option St :=
  if s.fr.length = d + 1 ∧ s.lp.isEmpty = true then
    (if (ts.all (lowOk 9 d n) && ((s.fr.getD d []).take n).all (lowBlk d n)) = true then some { s with fr := s.fr.set d ((s.fr.getD d []).take n) } else none)
  else some s

section
variable {α : Type} (E : Env) (d : Nat)
def handle (k : Ex → List O → St → Option α) : Option (Ex × List O × St) → Option α
  | some (e, ts, s) => k e ts s
  | none => none

def apart (l m : List (Nat × Nat)) : Bool := l.all fun x => !(m.contains x)
/-- Two operations whose order is open do not meet. -/
def freeB (d base : Nat) (ts : List O) (g1 g2 : G) : Bool :=
  match g1.op, g2.op with
  | .inr o1, .inr o2 => apart (fpW d base g1 ts o1) (fpR ts o2 ++ fpW d base g2 ts o2) && apart (fpW d base g2 ts o2) (fpR ts o1)
  | _, _ => false
def disOk (d base : Nat) (ts : List O) (l : List G) : List (Nat × Nat) → Bool
  | [] => true
  | (i, j) :: r => (match l[i]?, l[j]? with | some g1, some g2 => freeB d base ts g1 g2 | _, _ => false) && disOk d base ts l r

/-- The code from here on; 'k' is what comes behind it. -/
def den : IC → List O → St → (Ex → List O → St → Option α) → Option α
  | .skip, ts, s, k => k .normal ts s
  | .label _, ts, s, k => k .normal ts s
  | .ops n l un, ts, s, k => opsSem E d (frameLen s d) l ts (pushB s d n) fun ts' s' => if disOk d (frameLen s d) ts' l un = true then k .normal ts' s' else none
  | .seq a b, ts, s, k => den a ts s fun e ts s => match e with
    | .normal => den b ts s k
    | e => k e ts s
  | .cond c a b, ts, s, k => match rd ts c with
    | .c (.bool t) => if t = true then den a ts s k else den b ts s k
    | _ => none
  | .block id a, ts, s, k => den a ts s fun e ts s => match e with
    | .exit id' => if id' = id then k .normal ts s else k (.exit id') ts s
    | e => k e ts s
  | .loop kill ko a, ts, s, k => handle k (E.code d (.loopAt (frameLen s d) kill ko a) (killTs kill ts) s)
  | .loopAt n kill ko a, ts, s, k => handle k (E.code d (.loopAt n kill ko a) ts s)
  | .exit id, ts, s, k => k (.exit id) ts s
  | .goto l, ts, s, k => k (.goto l) ts s
  | .ret, ts, s, k => k .ret ts s
  | .scope run body, ts, s, k => handle k (E.code d (.scope run body) ts s)
  | .rangeFunc f ps asg body, ts, s, k => handle k (E.code d (.rangeFunc f ps asg body) ts s)
end
end Go.Ab

/-! ## Ab2 -/
namespace Go.Ab

/-- The functions, found by their numbers. -/
inductive Tree where
  | leaf (f : Nat) (ir : IFunc)
  | node (m : Nat) (l r : Tree)
def Tree.get : Tree → Nat → Option IFunc
  | .leaf k ir, f => bif Nat.beq f k then some ir else none
  | .node m l r, f => bif Nat.blt f m then l.get f else r.get f
structure Table where
  irs : FuncId → Option IFunc
  ext : FuncId → Option (List C → Option C)

/-! ### Results -/
/-- What lies behind a value at rest, all told by content: a row, and whatever else. -/
def toCarr (h : Heap) (m d i n : Nat) : Option C :=
  match getB h d i with
  | .arr _ n' get => if n = n' then some (.slice n get) else if n < n' then some (.slice n (sSlice n' get 0 n)) else none
  | .mar _ n' get => if n = n' ∧ m ≤ d then some (.slice n get) else none
  | .far _ n' get => if n = n' then some (.slice n get) else none
  | _ => none
def toC (h : Heap) (m : Nat) : Nat → PT → O → Option C
  | _, _, .c v => some v
  | _, sl, .nils => (ptAt sl 0).map nilC
  | _, _, .arr d i _ n => toCarr h m d i n
  | _, _, .mref d i => if m ≤ d then (match getB h d i with
    | .map f => some (.map f)
    | _ => none) else none
  | 0, _, _ => none
  | f + 1, _, .ref d i off => if m ≤ d then (match getB h d i with
    | .vars cs => match (cs.drop off).mapM (toC h m f []) with | some l => some (.imm l) | none => none
    | _ => none) else none
  | f + 1, _, .func g a b => match a.mapM (toC h m f []), b.mapM (toC h m f []) with
    | some a, some b => some (.func g a b)
    | _, _ => none
  | f + 1, sl, .agg cs => match cs.zipIdx.mapM (fun p => toC h m f ((ptAt sl p.2).map (fun z => [(0, z)]) |>.getD []) p.1) with
    | some l => some (.agg l)
    | none => none
  | _ + 1, _, _ => none

def isLow (m : Nat) : O → Bool
  | .ref d _ _ => decide (d < m)
  | .eref d _ _ _ _ => decide (d < m)
  | .vsl d _ _ _ _ => decide (d < m)
  | .mref d _ => decide (d < m)
  | _ => false
/-- A result that is handed to a caller: what leads to the caller's own blocks stays as it is. -/
def resO (h : Heap) (lo m : Nat) (sl : PT) (o : O) : Option O :=
  if isLow lo o = true then some o else (toC h m 9 sl o).map .c

def readRV (ts : List O) (s : St) : RV → Option O
  | .tmp t _ => some (ts.getD t .undef)
  | .cell a n _ => match ts.getD a .undef with
    | .ref d i off => match getB s.fr d i with
      | .vars cs => if off + n.getD 1 ≤ cs.length then some (ofCells n ((cs.drop off).take (n.getD 1))) else none
      | _ => none
    | _ => none
def RV.pt : RV → PT
  | .tmp _ pt => pt
  | .cell _ _ pt => pt
/-- A result, read and made ready. -/
def readWith {β : Type} (ts : List O) (s : St) (g : RV → O → Option β) (r : RV) : Option β := match readRV ts s r with | some o => g r o | none => none
def isRet : Ex → Bool
  | .normal => true
  | .ret => true
  | _ => false
def retC (ir : IFunc) (e : Ex) (ts : List O) (s : St) : Option C :=
  if isRet e = true then
    (match ir.results.mapM (readWith ts s fun r o => toC s.fr 0 9 r.pt o) with
    | some [v] => some v
    | some vs => some (.tuple vs)
    | none => none)
  else none
def retRich (ir : IFunc) (lo m : Nat) (e : Ex) (ts : List O) (s : St) : Option (O × St) :=
  if isRet e = true then
    (match ir.results.mapM (readWith ts s fun r o => resO s.fr lo m r.pt o) with
    | some [v] => some (v, { s with fr := s.fr.take m })
    | some vs => some (mkTuple vs, { s with fr := s.fr.take m })
    | none => none)
  else none
def retInl (ir : IFunc) (e : Ex) (ts : List O) (s : St) : Option (O × St) :=
  if isRet e = true then
    (match ir.results.mapM (readWith ts s fun r o => some o) with
    | some [v] => some (v, s)
    | some vs => some (mkTuple vs, s)
    | none => none)
  else none
def initTs (ir : IFunc) (args : List O) : List O := args ++ List.replicate (ir.ntmps - args.length) .undef

def setParams : List Nat → List O → List O → Option (List O)
  | [], [], ts => some ts
  | p :: ps, a :: r, ts => setParams ps r (ts.set p a)
  | _, _, _ => none

/-! ### One round more -/
def stepPure (X : Table) (E : Env) (f : FuncId) (args : List C) : Option C :=
  match X.ext f with
  | some p => p args
  | none => match X.irs f with
    | some ir => if ir.inl = false ∧ args.length = ir.nparams then den E 0 ir.body (initTs ir (args.map .c)) { fr := [[]] } (retC ir) else none
    | none => none
def stepRich (X : Table) (E : Env) (d : Nat) (f : FuncId) (args : List O) (s : St) : Option (O × St) :=
  match X.irs f with
  | some ir =>
    if args.length = ir.nparams then
      (if ir.inl = true then den E d ir.body (initTs ir args) s (retInl ir)
      else den E s.fr.length ir.body (initTs ir args) { s with fr := s.fr ++ [[]] } (retRich ir (d + 1) s.fr.length))
    else none
  | none => none
def keep (e : Ex) (ts : List O) (s : St) : Option (Ex × List O × St) := some (e, ts, s)
def stepCode (E : Env) (d : Nat) (c : IC) (ts : List O) (s : St) : Option (Ex × List O × St) :=
  match c with
  | .loopAt n kill ko a => match cut d n ts s with
    | some s => den E d a ts s fun e ts s => match e with
      | .normal => E.code d (.loopAt n kill ko a) (killTs kill ts) s
      | e => some (e, killTs ko ts, (cut d n (killTs ko ts) s).getD s)
    | none => none
  | .scope run body => den E d run ts s fun e ts s => match e with
    | .goto l => match findL body l with
      | some rest => E.code d (.scope rest body) ts s
      | none => some (.goto l, ts, s)
    | e => some (e, ts, s)
  | .rangeFunc f ps asg body =>
    if s.lp.isEmpty = true then
      (match splitO (rd ts f) with
      | some (g, a, b) =>
        match E.rich d g (a ++ [.yield s.lp.length] ++ b) { s with lp := s.lp ++ [⟨d, ts, ps, asg, body, none⟩] } with
        | some (_, s') => match s'.lp.getLast? with
          | some r => match r.pend with
            | none => some (.normal, ts, { s' with lp := s'.lp.dropLast })
            | some e => some (e, ts, { s' with lp := s'.lp.dropLast })
          | none => none
        | none => none
      | none => none)
    else none
  | _ => none
def stepRound (E : Env) (l : Nat) (args : List O) (s : St) : Option (O × St) :=
  match s.lp[l]? with
  | some r => match r.pend with
    | some _ => none
    | none => match setParams r.params args r.ts with
      | some ts => den E r.d r.assign ts s fun e ts s => match e with
        | .normal => den E r.d r.body ts s fun e _ s => match e with
          | .normal => some (.c (.bool true), s)
          | e => match s.lp[l]? with
            | some r => some (.c (.bool false), { s with lp := s.lp.set l { r with pend := some e } })
            | none => none
        | _ => none
      | none => none
  | none => none

def step (X : Table) (E : Env) : Env where
  pure := stepPure X E
  rich := stepRich X E
  round := stepRound E
  code := stepCode E
  inl f := match X.irs f with | some ir => ir.inl | none => false

def bot (X : Table) : Env where
  pure _ _ := none
  rich _ _ _ _ := none
  round _ _ _ := none
  code _ _ _ _ := none
  inl f := match X.irs f with | some ir => ir.inl | none => false
/-- The runs with at most n rounds and calls deep. -/
def run (X : Table) : Nat → Env
  | 0 => bot X
  | n + 1 => step X (run X n)
end Go.Ab
