/- What it means that the model's memory holds the abstract machine's values: the relations, and that they last. What one change of memory does to the relations. Operations that leave memory alone do in the model what they do in the abstract machine. '==' of structs and arrays of whole numbers and bools; values built, parts taken. The rest of the operations that leave memory alone. Changes of memory: a block laid, written, grown, finished. Finishing values, and the operations on memory: reading, writing, laying. The operations on memory, one by one: reading and writing. The operations on memory, one by one: laying and growing. The operations on memory, one by one: blocks, rows, parts of rows. The operations on memory, gathered. No statement of the seat is proved here. -/
import Derived.Test.YtjbipegbpeefkaaGreatMa
import Derived.Below
import Derived.Laws.Rows
import Derived.Laws.Sem
import Derived.Laws.Slices
import Derived.WalkKit
import Derived.ChangeKeysEq
import Derived.Laws.Tables
import Derived.Laws.StructEq
import Derived.Laws.CopyRow
import Derived.Laws.AppendOwn
import Derived.Laws.MakeOwn
import Derived.Deep.MidRow

set_option linter.unusedVariables false
set_option linter.unusedSimpArgs false
/-! ## As1 -/
namespace Go.Ab
open Go.RowKit

/-- Cells that never turn again. -/
abbrev Fz := Nat → Nat → Prop

inductive VR (F : Fz) (w : World) : C → Value → Prop
  | bool (b : Bool) : VR F w (.bool b) (.bool b)
  | int (k : IntKind) (n : Int) : VR F w (.int k n) (.int k n)
  | str (s : ByteArray) : VR F w (.str s) (.string s)
  | nilp : VR F w .nilp (.pointer none)
  | nilm : VR F w .nilm (.map none)
  | nilf : VR F w .nilf .nilFunc
  | imm {cs : List C} {us : List Value} {b off : Nat} (hl : us.length = cs.length) (hF : ∀ j, j < cs.length → F b (off + j))
      (hc : ∀ j u, us[j]? = some u → w.cell? ⟨b, off + j, none⟩ = some u) (hv : ∀ (j : Nat) (c : C) (u : Value), cs[j]? = some c → us[j]? = some u → VR F w c u) :
      VR F w (.imm cs) (.pointer (some ⟨b, off, none⟩))
  | slice0 {get : Nat → List C} {a : Option Addr} {cap : Nat} : VR F w (.slice 0 get) (.slice a 0 cap)
  | slice {get : Nat → List C} {us : List Value} {b off n cap sz : Nat} (hn : n ≤ cap) (hl : us.length = n * sz) (hg : ∀ i, i < n → (get i).length = sz) (hF : ∀ j, j < n * sz → F b (off + j))
      (hc : ∀ j u, us[j]? = some u → w.cell? ⟨b, off + j, none⟩ = some u) (h1 : ∀ (j : Nat) (u : Value), us[j]? = some u → u.oneCell' = true) (hv : ∀ (i j : Nat) (c : C) (u : Value), i < n → (get i)[j]? = some c → us[i * sz + j]? = some u → VR F w c u) :
      VR F w (.slice n get) (.slice (some ⟨b, off, none⟩) n cap)
  | func {f : FuncId} {a b : List C} {us vs : List Value} (ha : us.length = a.length) (hb : vs.length = b.length)
      (hva : ∀ (j : Nat) (c : C) (u : Value), a[j]? = some c → us[j]? = some u → VR F w c u) (hvb : ∀ (j : Nat) (c : C) (u : Value), b[j]? = some c → vs[j]? = some u → VR F w c u) :
      VR F w (.func f a b) (.func (.func f) us.toArray vs.toArray)
  | agg {cs : List C} {us : List Value} (hl : us.length = cs.length) (hv : ∀ (j : Nat) (c : C) (u : Value), cs[j]? = some c → us[j]? = some u → VR F w c u) : VR F w (.agg cs) (.agg us.toArray)
  | tuple {cs : List C} {us : List Value} (hl : us.length = cs.length) (hv : ∀ (j : Nat) (c : C) (u : Value), cs[j]? = some c → us[j]? = some u → VR F w c u) : VR F w (.tuple cs) (.tuple us.toArray)

theorem VR.mono {F F' : Fz} {w w' : World} (hF : ∀ b o, F b o → F' b o) (hw : ∀ b o, F b o → w'.cell? ⟨b, o, none⟩ = w.cell? ⟨b, o, none⟩) {c : C} {v : Value} (h : VR F w c v) : VR F' w' c v := by
  induction h with
  | bool b => exact .bool b
  | int k n => exact .int k n
  | str s => exact .str s
  | nilp => exact .nilp
  | nilm => exact .nilm
  | nilf => exact .nilf
  | imm hl h1 hc hv ih => exact .imm hl (fun j hj => hF _ _ (h1 j hj)) (fun j u hu => (hw _ _ (h1 j (by have := (List.getElem?_eq_some_iff.1 hu).1; omega))).trans (hc j u hu)) ih
  | slice0 => exact .slice0
  | slice hn hl hg h1 hc ho hv ih => exact .slice hn hl hg (fun j hj => hF _ _ (h1 j hj)) (fun j u hu => (hw _ _ (h1 j (by have := (List.getElem?_eq_some_iff.1 hu).1; omega))).trans (hc j u hu)) ho ih
  | func ha hb hva hvb iha ihb => exact .func ha hb iha ihb
  | agg hl hv ih => exact .agg hl ih
  | tuple hl hv ih => exact .tuple hl ih

abbrev Hs := List (List (Option Nat))
def loc (H : Hs) (d i : Nat) : Option Nat := ((H.getD d []).getD i none)

/-- The place of a whole row: its block, from its begin on, with its whole room; or none yet. -/
def Own (H : Hs) (w : World) (d i sz n : Nat) (a : Option Addr) (cap : Nat) : Prop :=
  (n = 0 ∧ cap = 0 ∧ loc H d i = none) ∨
  ∃ b us t, loc H d i = some b ∧ a = some ⟨b, 0, none⟩ ∧ w.heap[b]? = some (.cells us t (0, 0)) ∧ us.size = cap * sz ∧ n ≤ cap ∧ cap ≤ 9223372036854775807

/-- What a handle of a row is worth, by what its block is. -/
def RowAt (F : Fz) (H : Hs) (h : Heap) (w : World) (d i sz n : Nat) (a : Option Addr) (cap : Nat) : Prop :=
  match getB h d i with
  | .arr sz' n' get => sz' = sz ∧ n ≤ n' ∧ VR F w (.slice n get) (.slice a n cap) ∧ (∀ e, e < n → (get e).length = sz) ∧ (n = n' → Own H w d i sz n a cap)
  | .mar sz' n' _ => sz' = sz ∧ n ≤ n' ∧ (n = n' → Own H w d i sz n a cap)
  | .far sz' n' get => n = n' → VR F w (.slice n get) (.slice a n cap) ∧ ∀ e, e < n → (get e).length = sz
  | _ => False
def ElemAt (F : Fz) (H : Hs) (h : Heap) (w : World) (d i n e off : Nat) (a : Addr) : Prop :=
  match getB h d i with
  | .arr _ n' get => n ≤ n' ∧ e < n ∧ VR F w (.imm ((get e).drop off)) (.pointer (some a))
  | .mar sz n' _ => n ≤ n' ∧ (n = n' → e < n ∧ ∃ b, loc H d i = some b ∧ a = ⟨b, e * sz + off, none⟩)
  | .far _ n' get => n = n' → e < n ∧ VR F w (.imm ((get e).drop off)) (.pointer (some a))
  | _ => False
def isVars : Blk → Bool
  | .vars _ => true
  | _ => false

inductive RO (F : Fz) (H : Hs) (h : Heap) (w : World) (A : Nat → Nat → Prop) : O → Value → Prop
  | c {v : C} {u : Value} (hv : VR F w v u) : RO F H h w A (.c v) u
  | undef (u : Value) : RO F H h w A .undef u
  | nils (a : Option Addr) : RO F H h w A .nils (.slice a 0 0)
  | ref {d i off b : Nat} (hA : A d i) (hk : isVars (getB h d i) = true) (hl : loc H d i = some b) : RO F H h w A (.ref d i off) (.pointer (some ⟨b, off, none⟩))
  | eref {d i n e off : Nat} {a : Addr} (hA : A d i) (ha : ElemAt F H h w d i n e off a) : RO F H h w A (.eref d i n e off) (.pointer (some a))
  | arr {d i sz n cap : Nat} {a : Option Addr} (hA : A d i) (hs : 0 < n → ∃ x, a = some x) (hr : RowAt F H h w d i sz n a cap) : RO F H h w A (.arr d i sz n) (.slice a n cap)
  | vsl {d i off off' n sz b cap : Nat} (hA : A d i) (hk : isVars (getB h d i) = true) (hl : loc H d i = some b) (hn : n ≤ cap) (ho : 0 < n → off' = off) : RO F H h w A (.vsl d i off n sz) (.slice (some ⟨b, off', none⟩) n cap)
  | func {f : FuncId} {a b : List O} {us vs : List Value} (ha : us.length = a.length) (hb : vs.length = b.length)
      (hva : ∀ (j : Nat) (c : O) (u : Value), a[j]? = some c → us[j]? = some u → RO F H h w A c u) (hvb : ∀ (j : Nat) (c : O) (u : Value), b[j]? = some c → vs[j]? = some u → RO F H h w A c u) :
      RO F H h w A (.func f a b) (.func (.func f) us.toArray vs.toArray)
  | agg {cs : List O} {us : List Value} (hl : us.length = cs.length) (hv : ∀ (j : Nat) (c : O) (u : Value), cs[j]? = some c → us[j]? = some u → RO F H h w A c u) : RO F H h w A (.agg cs) (.agg us.toArray)
  | tuple {cs : List O} {us : List Value} (hl : us.length = cs.length) (hv : ∀ (j : Nat) (c : O) (u : Value), cs[j]? = some c → us[j]? = some u → RO F H h w A c u) : RO F H h w A (.tuple cs) (.tuple us.toArray)

/-- What a block of the machine's own is in the model's memory. -/
def RowC (F : Fz) (w : World) (us : Array Value) (sz n : Nat) (get : Nat → List C) : Prop :=
  n * sz ≤ us.size ∧ 0 < sz ∧ (∀ e, e < n → (get e).length = sz) ∧ ∀ (e j : Nat) (c : C) (u : Value), e < n → (get e)[j]? = some c → us[e * sz + j]? = some u → VR F w c u ∧ u.oneCell' = true
def BlkAt (F : Fz) (H : Hs) (h : Heap) (w : World) (d i : Nat) : Blk → Prop
  | .none => loc H d i = none
  | .vars cs => ∃ b us t, loc H d i = some b ∧ w.heap[b]? = some (.cells us t (0, 0)) ∧ cs.length ≤ us.size ∧ (∀ o, ¬ F b o) ∧ ∀ (j : Nat) (o : O) (u : Value), cs[j]? = some o → us[j]? = some u → RO F H h w (fun d' _ => d' ≤ d) o u
  | .arr sz n get => (n = 0 ∧ loc H d i = none) ∨ ∃ b us t, loc H d i = some b ∧ w.heap[b]? = some (.cells us t (0, 0)) ∧ (∀ o, F b o ↔ o < n * sz) ∧ RowC F w us sz n get
  | .mar sz n get => (n = 0 ∧ loc H d i = none) ∨ ∃ b us t, loc H d i = some b ∧ w.heap[b]? = some (.cells us t (0, 0)) ∧ (∀ o, ¬ F b o) ∧ RowC F w us sz n get
  | .far _ _ _ => True
  | .map _ => False

/-- Memory as a whole. -/
structure SR (F : Fz) (H : Hs) (h : Heap) (w : World) : Prop where
  len : H.length = h.length
  lens : ∀ d, (H.getD d []).length = (h.getD d []).length
  inj : ∀ d i d' i' b, loc H d i = some b → loc H d' i' = some b → d = d' ∧ i = i'
  lt : ∀ d i b, loc H d i = some b → b < w.heap.size
  flt : ∀ b o, F b o → b < w.heap.size
  blk : ∀ d i, BlkAt F H h w d i (getB h d i)

/-- A block of the model's memory that some abstract block stands for. -/
def Used (H : Hs) (h : Heap) (b : Nat) : Prop := ∃ d i, loc H d i = some b ∧ (match getB h d i with | .none => False | .far _ _ _ => False | _ => True)
/-- What a piece of running leaves as it was. -/
structure Ext (F : Fz) (H : Hs) (h : Heap) (w : World) (F' : Fz) (H' : Hs) (h' : Heap) (w' : World) : Prop where
  os : w'.os = w.os
  tape : w'.tape = w.tape
  output : w'.output = w.output
  size : w.heap.size ≤ w'.heap.size
  sub : ∀ b o, F b o → F' b o
  fix : ∀ b o, F b o → w'.cell? ⟨b, o, none⟩ = w.cell? ⟨b, o, none⟩
  old : ∀ b, b < w.heap.size → ¬ Used H h b → w'.heap[b]? = w.heap[b]? ∧ (∀ o, F' b o → F b o) ∧ ¬ Used H' h' b
theorem Ext.refl (F : Fz) (H : Hs) (h : Heap) (w : World) : Ext F H h w F H h w := ⟨rfl, rfl, rfl, Nat.le_refl _, fun _ _ h => h, fun _ _ _ => rfl, fun b _ h => ⟨rfl, fun _ h => h, h⟩⟩
theorem Ext.trans {F F' F'' : Fz} {H H' H'' : Hs} {h h' h'' : Heap} {w w' w'' : World} (a : Ext F H h w F' H' h' w') (b : Ext F' H' h' w' F'' H'' h'' w'') : Ext F H h w F'' H'' h'' w'' :=
  ⟨b.os.trans a.os, b.tape.trans a.tape, b.output.trans a.output, Nat.le_trans a.size b.size, fun x o h => b.sub x o (a.sub x o h), fun x o h => (b.fix x o (a.sub x o h)).trans (a.fix x o h),
   fun x hx hn =>
    let ⟨h1, h2, h3⟩ := a.old x hx hn
    let ⟨k1, k2, k3⟩ := b.old x (Nat.lt_of_lt_of_le hx a.size) h3
    ⟨k1.trans h1, fun o h => h2 o (k2 o h), k3⟩⟩

/-- How a block may go on. -/
def Goes (H : Hs) (w : World) (H' : Hs) (h' : Heap) (w' : World) (F' : Fz) (d i : Nat) : Blk → Prop
  | .none => True
  | .vars _ => isVars (getB h' d i) = true ∧ loc H' d i = loc H d i
  | .arr sz n get => ∃ n' get', getB h' d i = .arr sz n' get' ∧ n ≤ n' ∧ (∀ e, e < n → get' e = get e) ∧ (n = n' → ∀ a cap, Own H w d i sz n a cap → Own H' w' d i sz n a cap)
  | .mar sz n _ => (∃ n' get', getB h' d i = .mar sz n' get' ∧ n ≤ n' ∧ (n = n' → loc H' d i = loc H d i ∧ ∀ a cap, Own H w d i sz n a cap → Own H' w' d i sz n a cap)) ∨
      (∃ get', getB h' d i = .far sz n get' ∧ ((n = 0 ∧ loc H d i = none) ∨ ∃ b us t, loc H d i = some b ∧ w'.heap[b]? = some (.cells us t (0, 0)) ∧ (∀ o, o < n * sz → F' b o) ∧ RowC F' w' us sz n get' ∧ ∃ us0 t0, w.heap[b]? = some (.cells us0 t0 (0, 0)) ∧ us0.size = us.size))
  | .far sz n get => getB h' d i = .far sz n get
  | .map _ => False

theorem cell_of_cells {w : World} {b : Nat} {us : Array Value} {t : TypeId} {fr : Nat × Nat} (h : w.heap[b]? = some (.cells us t fr)) (j : Nat) : w.cell? ⟨b, j, none⟩ = us[j]? := by
  simp [World.cell?, h]

theorem VR.of_row {F : Fz} {w : World} {b : Nat} {us : Array Value} {t : TypeId} {sz n cap : Nat} {get : Nat → List C} (hb : w.heap[b]? = some (.cells us t (0, 0))) (hF : ∀ o, o < n * sz → F b o) (hr : RowC F w us sz n get) (hn : n ≤ cap) :
    VR F w (.slice n get) (.slice (some ⟨b, 0, none⟩) n cap) := by
  obtain ⟨h1, h2, h3, h4⟩ := hr
  refine .slice (us := us.toList.take (n * sz)) (sz := sz) hn (by simp; omega) h3 (fun j hj => by simpa using hF j hj) (fun j u hu => ?_) (fun j u hu => ?_) (fun i j c u hi hc hu => ?_)
  · rw [List.getElem?_take] at hu
    split at hu
    · rw [Nat.zero_add, cell_of_cells hb]; simpa using hu
    · cases hu
  · rw [List.getElem?_take] at hu
    split at hu
    · rename_i hj
      have hn0 : 0 < sz := h2
      have he : j / sz < n := Nat.div_lt_of_lt_mul (by rw [Nat.mul_comm]; exact hj)
      have hlen := h3 _ he
      have hm : j % sz < sz := Nat.mod_lt _ hn0
      have hc : (get (j / sz))[j % sz]? = some ((get (j / sz))[j % sz]'(by omega)) := List.getElem?_eq_getElem _
      have hj2 : j / sz * sz + j % sz = j := by rw [Nat.mul_comm]; exact Nat.div_add_mod j sz
      exact (h4 (j / sz) (j % sz) _ u he hc (by rw [hj2]; simpa using hu)).2
    · cases hu
  · rw [List.getElem?_take] at hu
    split at hu
    · exact (h4 i j c u hi hc (by simpa using hu)).1
    · cases hu
theorem VR.elem {F : Fz} {w : World} {n : Nat} {get : Nat → List C} {a : Option Addr} {cap : Nat} (h : VR F w (.slice n get) (.slice a n cap)) {e : Nat} (he : e < n) :
    ∃ b off sz, a = some ⟨b, off, none⟩ ∧ (∀ i, i < n → (get i).length = sz) ∧ VR F w (.imm (get e)) (.pointer (some ⟨b, off + e * sz, none⟩)) := by
  cases h with
  | slice0 => exact absurd he (by omega)
  | @slice _ us b off _ _ sz hn hl hg hF hc h1 hv =>
    refine ⟨b, off, sz, rfl, hg, ?_⟩
    have hlen := hg e he
    have hle : e * sz + sz ≤ n * sz := by have := Nat.mul_le_mul_right sz (show e + 1 ≤ n from he); rw [Nat.succ_mul] at this; exact this
    refine .imm (us := (us.drop (e * sz)).take sz) (by simp; omega) (fun j hj => ?_) (fun j u hu => ?_) (fun j c u hc' hu => ?_)
    · have := hF (e * sz + j) (by omega)
      rwa [show off + e * sz + j = off + (e * sz + j) by omega]
    · rw [List.getElem?_take] at hu
      split at hu
      · rw [List.getElem?_drop] at hu
        have := hc _ u hu
        rwa [show off + e * sz + j = off + (e * sz + j) by omega]
      · cases hu
    · rw [List.getElem?_take] at hu
      split at hu
      · rw [List.getElem?_drop] at hu
        exact hv e j c u he hc' hu
      · cases hu
end Go.Ab

/-! ## As2 -/
namespace Go.Ab
open Go.RowKit

theorem VR.imm_drop {F : Fz} {w : World} {cs : List C} {b off : Nat} (h : VR F w (.imm cs) (.pointer (some ⟨b, off, none⟩))) (k : Nat) : VR F w (.imm (cs.drop k)) (.pointer (some ⟨b, off + k, none⟩)) := by
  cases h with
  | @imm _ us _ _ hl hF hc hv =>
    refine .imm (us := us.drop k) (by simp [hl]) (fun j hj => ?_) (fun j u hu => ?_) (fun j c u hc' hu => ?_)
    · rw [show off + k + j = off + (k + j) by omega]
      exact hF _ (by simp at hj; omega)
    · rw [show off + k + j = off + (k + j) by omega]
      exact hc _ u (by rwa [List.getElem?_drop] at hu)
    · exact hv (k + j) c u (by rwa [List.getElem?_drop] at hc') (by rwa [List.getElem?_drop] at hu)

/-! ### The machine's own tables -/
def setL (H : Hs) (d i : Nat) (x : Option Nat) : Hs := H.set d ((H.getD d []).set i x)
theorem getB_setB (h : Heap) (d i : Nat) (b : Blk) (hd : d < h.length) (hi : i < (h.getD d []).length) (d' i' : Nat) :
    getB (setB h d i b) d' i' = if d' = d ∧ i' = i then b else getB h d' i' := by
  unfold getB setB
  by_cases e : d' = d
  · subst e
    simp only [List.getD_eq_getElem?_getD, List.getElem?_set_self hd, Option.getD_some, true_and]
    by_cases e2 : i' = i
    · subst e2
      simp only [if_true]
      rw [List.getElem?_set_self (by rw [List.getD_eq_getElem?_getD] at hi; exact hi)]; rfl
    · rw [List.getElem?_set_ne (by omega)]; simp [e2]
  · simp only [List.getD_eq_getElem?_getD]
    rw [List.getElem?_set_ne (by omega)]; simp [e]
theorem loc_setL (H : Hs) (d i : Nat) (x : Option Nat) (hd : d < H.length) (hi : i < (H.getD d []).length) (d' i' : Nat) :
    loc (setL H d i x) d' i' = if d' = d ∧ i' = i then x else loc H d' i' := by
  unfold loc setL
  by_cases e : d' = d
  · subst e
    simp only [List.getD_eq_getElem?_getD, List.getElem?_set_self hd, Option.getD_some, true_and]
    by_cases e2 : i' = i
    · subst e2
      simp only [if_true]
      rw [List.getElem?_set_self (by rw [List.getD_eq_getElem?_getD] at hi; exact hi)]; rfl
    · rw [List.getElem?_set_ne (by omega)]; simp [e2]
  · simp only [List.getD_eq_getElem?_getD]
    rw [List.getElem?_set_ne (by omega)]; simp [e]
theorem len_setB (h : Heap) (d i : Nat) (b : Blk) : (setB h d i b).length = h.length := by simp [setB]
theorem len_setL (H : Hs) (d i : Nat) (x : Option Nat) : (setL H d i x).length = H.length := by simp [setL]
theorem lens_setB (h : Heap) (d i : Nat) (b : Blk) (d' : Nat) : ((setB h d i b).getD d' []).length = (h.getD d' []).length := by
  unfold setB
  simp only [List.getD_eq_getElem?_getD]
  by_cases e : d = d'
  · subst e
    by_cases hd : d < h.length
    · rw [List.getElem?_set_self hd]; simp
    · rw [List.getElem?_eq_none (by simp; omega), List.getElem?_eq_none (by omega)]
  · rw [List.getElem?_set_ne e]
theorem lens_setL (H : Hs) (d i : Nat) (x : Option Nat) (d' : Nat) : ((setL H d i x).getD d' []).length = (H.getD d' []).length := by
  unfold setL
  simp only [List.getD_eq_getElem?_getD]
  by_cases e : d = d'
  · subst e
    by_cases hd : d < H.length
    · rw [List.getElem?_set_self hd]; simp
    · rw [List.getElem?_eq_none (by simp; omega), List.getElem?_eq_none (by omega)]
  · rw [List.getElem?_set_ne e]
/-- A block that there is lies within the tables. -/
theorem getB_in {h : Heap} {d i : Nat} (hb : getB h d i ≠ .none) : d < h.length ∧ i < (h.getD d []).length := by
  unfold getB at hb
  by_cases hi : i < (h.getD d []).length
  · refine ⟨?_, hi⟩
    by_cases hd : d < h.length
    · exact hd
    · rw [List.getD_eq_getElem?_getD, List.getElem?_eq_none (by omega)] at hi
      simp at hi
  · rw [List.getD_eq_getElem?_getD (l := h.getD d []), List.getElem?_eq_none (by omega)] at hb
    simp at hb

/-! ### A value lasts -/
section
variable {F F' : Fz} {H H' : Hs} {h h' : Heap} {w w' : World}

theorem Own.size_eq {d i sz n cap : Nat} {a : Option Addr} (h : Own H w d i sz n a cap) : n ≤ cap := by
  rcases h with ⟨rfl, rfl, _⟩ | ⟨_, _, _, _, _, _, _, h, _⟩
  · exact Nat.le_refl _
  · exact h

theorem RO.goes (hF : ∀ b o, F b o → F' b o) (hw : ∀ b o, F b o → w'.cell? ⟨b, o, none⟩ = w.cell? ⟨b, o, none⟩)
    {A A' : Nat → Nat → Prop} (hA : ∀ d i, A d i → A' d i) (hG : ∀ d i, A d i → Goes H w H' h' w' F' d i (getB h d i)) {o : O} {v : Value} (hr : RO F H h w A o v) : RO F' H' h' w' A' o v := by
  induction hr with
  | c hv => exact .c (hv.mono hF hw)
  | undef u => exact .undef u
  | nils a => exact .nils a
  | @ref d i off b ha hk hl =>
    have hg := hG d i ha
    cases hb : getB h d i <;> rw [hb] at hk <;> try (simp [isVars] at hk)
    rw [hb] at hg
    exact .ref (hA _ _ ha) hg.1 (hg.2.trans hl)
  | @vsl d i off off' n sz b cap ha hk hl hn ho =>
    have hg := hG d i ha
    cases hb : getB h d i <;> rw [hb] at hk <;> try (simp [isVars] at hk)
    rw [hb] at hg
    exact .vsl (hA _ _ ha) hg.1 (hg.2.trans hl) hn ho
  | @arr d i sz n cap a ha hs hr =>
    refine .arr (hA _ _ ha) hs ?_
    have hg := hG d i ha
    unfold RowAt at hr ⊢
    cases hb : getB h d i with
    | none => rw [hb] at hr; exact hr.elim
    | vars cs => rw [hb] at hr; exact hr.elim
    | map f => rw [hb] at hr; exact hr.elim
    | arr sz' n' get =>
      rw [hb] at hr hg
      obtain ⟨hz, h1, h2, h5, h3⟩ := hr
      subst hz
      obtain ⟨n2, get2, e2, hle, heq, hown⟩ := hg
      rw [e2]
      refine ⟨rfl, by omega, ?_, fun e he => by rw [heq e (by omega)]; exact h5 e he, fun e => ?_⟩
      · have h4 := h2.mono hF hw
        cases h4 with
        | slice0 => exact .slice0
        | slice hn hl hgt hF' hc h1 hv => exact .slice hn hl (fun e he => by rw [heq e (by omega)]; exact hgt e he) hF' hc h1 (fun e j c u he hc' hu => hv e j c u he (by rw [← heq e (by omega)]; exact hc') hu)
      · have : n' = n2 := by omega
        exact (by
          have e1 : n = n' := by omega
          exact e1 ▸ hown this a cap (e1 ▸ h3 e1))
    | mar sz' n' get =>
      rw [hb] at hr hg
      obtain ⟨hz, h1, h3⟩ := hr
      subst hz
      rcases hg with ⟨n2, get2, e2, hle, hown⟩ | ⟨get2, e2, hfar⟩
      · rw [e2]
        refine ⟨rfl, by omega, fun e => ?_⟩
        have e1 : n = n' := by omega
        exact e1 ▸ (hown (by omega)).2 a cap (e1 ▸ h3 e1)
      · rw [e2]
        intro e
        have hO := h3 e
        subst e
        rcases hfar with ⟨h0, hn⟩ | ⟨b, us, t, hl, hb', hF', hrow, _⟩
        · subst h0; exact ⟨.slice0, fun e he => absurd he (by omega)⟩
        · refine ⟨?_, hrow.2.2.1⟩
          rcases hO with ⟨h0, _, _⟩ | ⟨b2, us2, t2, hl2, ha, _, _, hnc, _⟩
          · subst h0; exact .slice0
          · rw [hl] at hl2
            cases hl2
            subst ha
            exact VR.of_row hb' hF' hrow hnc
    | far sz n' get =>
      rw [hb] at hr hg
      have hg' : getB h' d i = .far sz n' get := hg
      rw [hg']
      exact fun e => ⟨(hr e).1.mono hF hw, (hr e).2⟩
  | @eref d i n e off a hq ha =>
    refine .eref (hA _ _ hq) ?_
    have hg := hG d i hq
    unfold ElemAt at ha ⊢
    cases hb : getB h d i with
    | none => rw [hb] at ha; exact ha.elim
    | vars cs => rw [hb] at ha; exact ha.elim
    | map f => rw [hb] at ha; exact ha.elim
    | arr sz n' get =>
      rw [hb] at ha hg
      obtain ⟨h1, h2, h3⟩ := ha
      obtain ⟨n2, get2, e2, hle, heq, hown⟩ := hg
      rw [e2]
      refine ⟨by omega, h2, ?_⟩
      rw [heq e (by omega)]
      exact h3.mono hF hw
    | mar sz n' get =>
      rw [hb] at ha hg
      obtain ⟨h1, h3⟩ := ha
      rcases hg with ⟨n2, get2, e2, hle, hown⟩ | ⟨get2, e2, hfar⟩
      · rw [e2]
        refine ⟨by omega, fun e' => ?_⟩
        have e1 : n = n' := by omega
        obtain ⟨k1, b, k2, k3⟩ := h3 e1
        exact ⟨k1, b, (hown (by omega)).1.trans k2, k3⟩
      · rw [e2]
        intro e'
        obtain ⟨k1, b, k2, k3⟩ := h3 e'
        refine ⟨k1, ?_⟩
        subst e'
        rcases hfar with ⟨h0, hn⟩ | ⟨b2, us, t, hl, hb', hF', hrow, _⟩
        · omega
        · rw [hl] at k2
          cases k2
          have hv := VR.of_row hb' hF' hrow (Nat.le_refl n)
          obtain ⟨b3, off3, sz3, e3, hsz, hv3⟩ := hv.elem k1
          cases e3
          have hs : sz3 = sz := (hsz e k1).symm.trans (hrow.2.2.1 e k1)
          subst hs
          have hd := hv3.imm_drop off
          rw [k3]
          simpa using hd
    | far sz n' get =>
      rw [hb] at ha hg
      have hg' : getB h' d i = .far sz n' get := hg
      rw [hg']
      exact fun e => ⟨(ha e).1, (ha e).2.mono hF hw⟩
  | func ha hb hva hvb iha ihb => exact .func ha hb iha ihb
  | agg hl hv ih => exact .agg hl ih
  | tuple hl hv ih => exact .tuple hl ih

theorem Used.of_loc {d i b : Nat} (hl : loc H d i = some b) (hb : match getB h d i with | .none => False | .far _ _ _ => False | _ => True) : Used H h b := ⟨d, i, hl, hb⟩

/-- One block turns: what must be shown of it, and what follows. -/
theorem SR.upd (S : SR F H h w) {d i : Nat} {b' : Blk} {x : Option Nat} (hd : d < h.length) (hi : i < (h.getD d []).length)
    (hos : w'.os = w.os) (htape : w'.tape = w.tape) (hout : w'.output = w.output) (hsz : w.heap.size ≤ w'.heap.size)
    (hF : ∀ b o, F b o → F' b o) (hw : ∀ b o, F b o → w'.cell? ⟨b, o, none⟩ = w.cell? ⟨b, o, none⟩)
    (hnf : ∀ sz n g, getB h d i ≠ .far sz n g)
    (hx : ∀ b, x = some b → b < w'.heap.size ∧ (loc H d i = some b ∨ w.heap.size ≤ b))
    (hoth : ∀ b, b < w.heap.size → loc H d i ≠ some b → w'.heap[b]? = w.heap[b]? ∧ ∀ o, F' b o → F b o)
    (hflt : ∀ b o, F' b o → b < w'.heap.size)
    (hG : Goes H w (setL H d i x) (setB h d i b') w' F' d i (getB h d i))
    (hB : (∀ A o v, RO F H h w A o v → RO F' (setL H d i x) (setB h d i b') w' A o v) → BlkAt F' (setL H d i x) (setB h d i b') w' d i b') :
    SR F' (setL H d i x) (setB h d i b') w' ∧ Ext F H h w F' (setL H d i x) (setB h d i b') w' ∧ (∀ A o v, RO F H h w A o v → RO F' (setL H d i x) (setB h d i b') w' A o v) := by
  have hfresh : getB h d i = .none → loc H d i = none := fun e => by have := S.blk d i; rw [e] at this; exact this
  have hd' : d < H.length := by rw [S.len]; exact hd
  have hi' : i < (H.getD d []).length := by rw [S.lens]; exact hi
  have gB := getB_setB h d i b' hd hi
  have gL := loc_setL H d i x hd' hi'
  have hne : ∀ d' i' b, ¬ (d' = d ∧ i' = i) → loc H d' i' = some b → loc H d i ≠ some b := fun d' i' b hn hl e => hn (S.inj _ _ _ _ _ hl e)
  have hgoes : ∀ d' i', Goes H w (setL H d i x) (setB h d i b') w' F' d' i' (getB h d' i') := by
    intro d' i'
    by_cases e : d' = d ∧ i' = i
    · obtain ⟨rfl, rfl⟩ := e; exact hG
    · have hown : ∀ sz n a cap, Own H w d' i' sz n a cap → Own (setL H d i x) w' d' i' sz n a cap := by
        rintro sz n a cap (⟨h1, h2, h3⟩ | ⟨b, us, t, h1, h2, h3, h4, h5⟩)
        · exact .inl ⟨h1, h2, by rw [gL, if_neg e]; exact h3⟩
        · exact .inr ⟨b, us, t, by rw [gL, if_neg e]; exact h1, h2, by rw [(hoth b (S.lt _ _ _ h1) (hne _ _ _ e h1)).1]; exact h3, h4, h5⟩
      cases hb : getB h d' i' with
      | none => trivial
      | vars cs => exact ⟨by rw [gB, if_neg e, hb]; rfl, by rw [gL, if_neg e]⟩
      | arr sz n get => exact ⟨n, get, by rw [gB, if_neg e, hb], Nat.le_refl _, fun _ _ => rfl, fun _ a cap => hown sz n a cap⟩
      | mar sz n get => exact .inl ⟨n, get, by rw [gB, if_neg e, hb], Nat.le_refl _, fun _ => ⟨by rw [gL, if_neg e], fun a cap => hown sz n a cap⟩⟩
      | far sz n get => show getB _ _ _ = _; rw [gB, if_neg e, hb]
      | map f => exact ((by have := S.blk d' i'; rw [hb] at this; exact this) : False)
  have hRO : ∀ A o v, RO F H h w A o v → RO F' (setL H d i x) (setB h d i b') w' A o v := fun A o v hr => hr.goes hF hw (fun _ _ q => q) (fun d i _ => hgoes d i)
  refine ⟨⟨by rw [len_setL, len_setB]; exact S.len, fun d' => by rw [lens_setL, lens_setB]; exact S.lens d', ?_, ?_, hflt, ?_⟩, ⟨hos, htape, hout, hsz, hF, hw, ?_⟩, hRO⟩
  · intro d1 i1 d2 i2 b h1 h2
    rw [gL] at h1 h2
    split at h1 <;> split at h2
    · rename_i e1 e2; exact ⟨e1.1.trans e2.1.symm, e1.2.trans e2.2.symm⟩
    · rename_i e1 e2
      rcases (hx b h1).2 with hh | hh
      · exact absurd (S.inj _ _ _ _ _ h2 hh) (fun q => e2 q)
      · exact absurd (S.lt _ _ _ h2) (by omega)
    · rename_i e1 e2
      rcases (hx b h2).2 with hh | hh
      · exact absurd (S.inj _ _ _ _ _ h1 hh) (fun q => e1 q)
      · exact absurd (S.lt _ _ _ h1) (by omega)
    · exact S.inj _ _ _ _ _ h1 h2
  · intro d1 i1 b h1
    rw [gL] at h1
    split at h1
    · exact (hx b h1).1
    · exact Nat.lt_of_lt_of_le (S.lt _ _ _ h1) hsz
  · intro d1 i1
    rw [gB]
    split
    · rename_i e; obtain ⟨rfl, rfl⟩ := e; exact hB hRO
    · rename_i e
      have hold := S.blk d1 i1
      have hrow : ∀ us sz n get, RowC F w us sz n get → RowC F' w' us sz n get := fun us sz n get ⟨k1, k2, k3, k4⟩ => ⟨k1, k2, k3, fun e j c u he hc hu => ⟨(k4 e j c u he hc hu).1.mono hF hw, (k4 e j c u he hc hu).2⟩⟩
      cases hb : getB h d1 i1 with
      | none => rw [hb] at hold; show loc _ _ _ = none; rw [gL, if_neg e]; exact hold
      | vars cs =>
        rw [hb] at hold
        obtain ⟨b, us, t, h1, h2, h3, h4, h5⟩ := hold
        obtain ⟨k1, k2⟩ := hoth b (S.lt _ _ _ h1) (hne _ _ _ e h1)
        exact ⟨b, us, t, by rw [gL, if_neg e]; exact h1, k1.trans h2, h3, fun o q => h4 o (k2 o q), fun j o u ho hu => hRO _ _ _ (h5 j o u ho hu)⟩
      | arr sz n get =>
        rw [hb] at hold
        rcases hold with ⟨h1, h2⟩ | ⟨b, us, t, h1, h2, h4, h5⟩
        · exact .inl ⟨h1, by rw [gL, if_neg e]; exact h2⟩
        · obtain ⟨k1, k2⟩ := hoth b (S.lt _ _ _ h1) (hne _ _ _ e h1)
          exact .inr ⟨b, us, t, by rw [gL, if_neg e]; exact h1, k1.trans h2, fun o => ⟨fun q => (h4 o).1 (k2 o q), fun q => hF _ _ ((h4 o).2 q)⟩, hrow _ _ _ _ h5⟩
      | mar sz n get =>
        rw [hb] at hold
        rcases hold with ⟨h1, h2⟩ | ⟨b, us, t, h1, h2, h4, h5⟩
        · exact .inl ⟨h1, by rw [gL, if_neg e]; exact h2⟩
        · obtain ⟨k1, k2⟩ := hoth b (S.lt _ _ _ h1) (hne _ _ _ e h1)
          exact .inr ⟨b, us, t, by rw [gL, if_neg e]; exact h1, k1.trans h2, fun o q => h4 o (k2 o q), hrow _ _ _ _ h5⟩
      | far sz n get => trivial
      | map f => rw [hb] at hold; exact hold
  · intro b hb hu
    have hn : loc H d i ≠ some b := by
      intro hl
      cases hk : getB h d i with
      | none => rw [hfresh hk] at hl; cases hl
      | far sz n g => exact hnf _ _ _ hk
      | vars cs => exact hu ⟨d, i, hl, by rw [hk]; trivial⟩
      | arr sz n g => exact hu ⟨d, i, hl, by rw [hk]; trivial⟩
      | mar sz n g => exact hu ⟨d, i, hl, by rw [hk]; trivial⟩
      | map f => exact hu ⟨d, i, hl, by rw [hk]; trivial⟩
    refine ⟨(hoth b hb hn).1, (hoth b hb hn).2, ?_⟩
    rintro ⟨d1, i1, hl, hk⟩
    rw [gL] at hl
    rw [gB] at hk
    split at hl
    · rcases (hx b hl).2 with hh | hh
      · exact hn hh
      · omega
    · rename_i e
      rw [if_neg e] at hk
      exact hu ⟨d1, i1, hl, hk⟩
end
end Go.Ab

/-! ## As3 -/
namespace Go.Ab
open Go.RowKit

abbrev AOk (d : Nat) : Nat → Nat → Prop := fun d' _ => d' ≤ d
/-- The slots of an activation. -/
structure AR (F : Fz) (H : Hs) (h : Heap) (w : World) (d : Nat) (ts : List O) (a : Array Value) : Prop where
  len : ts.length = a.size
  lim : ts.length ≤ 900000
  val : ∀ t, RO F H h w (AOk d) (ts.getD t .undef) (a.getD t undef)

inductive KV : K → Value → Prop
  | bool (b : Bool) : KV (.bool b) (.bool b)
  | int (k : IntKind) (n : Int) : KV (.int k n) (.int k n)
  | str (s : ByteArray) : KV (.str s) (.string s)
  | nilp : KV .nilp (.pointer none)
  | nils : KV .nils (.slice none 0 0)
  | nilf : KV .nilf .nilFunc
  | nilm : KV .nilm (.map none)
inductive TrA : Operand → Arg → Prop
  | tmp (t : Tmp) : TrA (.tmp t) (.t t)
  | const {k : K} {v : Value} (h : KV k v) : TrA (.const v) (.k k)
  | func (f : FuncId) : TrA (.func f) (.f f)
  | any (x : Operand) : TrA x (.t 999999)

inductive All2 {α β : Type} (R : α → β → Prop) : List α → List β → Prop
  | nil : All2 R [] []
  | cons {a : α} {b : β} {l : List α} {m : List β} (h : R a b) (t : All2 R l m) : All2 R (a :: l) (b :: m)

section
variable {F : Fz} {H : Hs} {h : Heap} {w : World} {d : Nat} {ts : List O} {a : Act} {P : Program}

theorem KV.ro {A : Nat → Nat → Prop} {k : K} {v : Value} (hk : KV k v) : RO F H h w A k.o v := by
  cases hk with
  | bool b => exact .c (.bool b)
  | int k n => exact .c (.int k n)
  | str s => exact .c (.str s)
  | nilp => exact .c .nilp
  | nils => exact .nils none
  | nilf => exact .c .nilf
  | nilm => exact .c .nilm
theorem TrA.ro {x : Operand} {y : Arg} (hx : TrA x y) (hA : AR F H h w d ts a.tmps) : RO F H h w (AOk d) (rd ts y) (a.eval x) := by
  cases hx with
  | tmp t => exact hA.val t
  | const hk => exact hk.ro
  | func f => exact .c (.func (us := []) (vs := []) rfl rfl (fun j c u hj => by simp at hj) (fun j c u hj => by simp at hj))
  | any x =>
    have : rd ts (.t 999999) = .undef := by
      simp only [rd, List.getD_eq_getElem?_getD]
      rw [List.getElem?_eq_none (by have := hA.lim; omega)]; rfl
    rw [this]; exact .undef _

/-! ### What a value must be, by what it is told to be -/
theorem ro_bool {A : Nat → Nat → Prop} {b : Bool} {v : Value} (hr : RO F H h w A (.c (.bool b)) v) : v = .bool b := by
  cases hr with | c hv => cases hv; rfl
theorem ro_int {A : Nat → Nat → Prop} {k : IntKind} {n : Int} {v : Value} (hr : RO F H h w A (.c (.int k n)) v) : v = .int k n := by
  cases hr with | c hv => cases hv; rfl

theorem ro_imm {A : Nat → Nat → Prop} {cs : List C} {v : Value} (hr : RO F H h w A (.c (.imm cs)) v) : ∃ b off, v = .pointer (some ⟨b, off, none⟩) ∧ VR F w (.imm cs) (.pointer (some ⟨b, off, none⟩)) := by
  cases hr with | c hv => cases hv with | imm hl hF hc hv => exact ⟨_, _, rfl, .imm hl hF hc hv⟩
theorem ro_nilp {A : Nat → Nat → Prop} {v : Value} (hr : RO F H h w A (.c .nilp) v) : v = .pointer none := by
  cases hr with | c hv => cases hv; rfl
theorem ro_str {A : Nat → Nat → Prop} {s : ByteArray} {v : Value} (hr : RO F H h w A (.c (.str s)) v) : v = .string s := by
  cases hr with | c hv => cases hv; rfl
theorem ro_ref {A : Nat → Nat → Prop} {d i off : Nat} {v : Value} (hr : RO F H h w A (.ref d i off) v) : ∃ b, v = .pointer (some ⟨b, off, none⟩) ∧ A d i ∧ isVars (getB h d i) = true ∧ loc H d i = some b := by
  cases hr with | ref hA hk hl => exact ⟨_, rfl, hA, hk, hl⟩
theorem ro_eref {A : Nat → Nat → Prop} {d i n e off : Nat} {v : Value} (hr : RO F H h w A (.eref d i n e off) v) : ∃ a, v = .pointer (some a) ∧ A d i ∧ ElemAt F H h w d i n e off a := by
  cases hr with | eref hA ha => exact ⟨_, rfl, hA, ha⟩
theorem ro_arr {A : Nat → Nat → Prop} {d i sz n : Nat} {v : Value} (hr : RO F H h w A (.arr d i sz n) v) : ∃ a cap, v = .slice a n cap ∧ A d i ∧ RowAt F H h w d i sz n a cap ∧ (0 < n → ∃ x, a = some x) := by
  cases hr with | arr hA hs ha => exact ⟨_, _, rfl, hA, ha, hs⟩
theorem ro_vsl {A : Nat → Nat → Prop} {d i off n sz : Nat} {v : Value} (hr : RO F H h w A (.vsl d i off n sz) v) : ∃ b cap off', v = .slice (some ⟨b, off', none⟩) n cap ∧ A d i ∧ isVars (getB h d i) = true ∧ loc H d i = some b ∧ n ≤ cap ∧ (0 < n → off' = off) := by
  cases hr with | vsl hA hk hl hn ho => exact ⟨_, _, _, rfl, hA, hk, hl, hn, ho⟩
theorem ro_nils {A : Nat → Nat → Prop} {v : Value} (hr : RO F H h w A .nils v) : ∃ a, v = .slice a 0 0 := by
  cases hr with | nils a => exact ⟨a, rfl⟩
theorem ro_slice {A : Nat → Nat → Prop} {n : Nat} {get : Nat → List C} {v : Value} (hr : RO F H h w A (.c (.slice n get)) v) : ∃ a cap, v = .slice a n cap ∧ n ≤ cap ∧ VR F w (.slice n get) (.slice a n cap) := by
  cases hr with | c hv => cases hv with
    | slice0 => exact ⟨_, _, rfl, Nat.zero_le _, .slice0⟩
    | slice hn hl hg hF hc h1 hv => exact ⟨_, _, rfl, hn, .slice hn hl hg hF hc h1 hv⟩
theorem ro_agg {A : Nat → Nat → Prop} {cs : List C} {v : Value} (hr : RO F H h w A (.c (.agg cs)) v) : ∃ us : List Value, v = .agg us.toArray ∧ us.length = cs.length ∧ ∀ (j : Nat) (c : C) (u : Value), cs[j]? = some c → us[j]? = some u → VR F w c u := by
  cases hr with | c hv => cases hv with | agg hl hv => exact ⟨_, rfl, hl, hv⟩
theorem ro_aggO {A : Nat → Nat → Prop} {cs : List O} {v : Value} (hr : RO F H h w A (.agg cs) v) : ∃ us : List Value, v = .agg us.toArray ∧ us.length = cs.length ∧ ∀ (j : Nat) (c : O) (u : Value), cs[j]? = some c → us[j]? = some u → RO F H h w A c u := by
  cases hr with | agg hl hv => exact ⟨_, rfl, hl, hv⟩
theorem ro_tuple {A : Nat → Nat → Prop} {cs : List C} {v : Value} (hr : RO F H h w A (.c (.tuple cs)) v) : ∃ us : List Value, v = .tuple us.toArray ∧ us.length = cs.length ∧ ∀ (j : Nat) (c : C) (u : Value), cs[j]? = some c → us[j]? = some u → VR F w c u := by
  cases hr with | c hv => cases hv with | tuple hl hv => exact ⟨_, rfl, hl, hv⟩
theorem ro_tupleO {A : Nat → Nat → Prop} {cs : List O} {v : Value} (hr : RO F H h w A (.tuple cs) v) : ∃ us : List Value, v = .tuple us.toArray ∧ us.length = cs.length ∧ ∀ (j : Nat) (c : O) (u : Value), cs[j]? = some c → us[j]? = some u → RO F H h w A c u := by
  cases hr with | tuple hl hv => exact ⟨_, rfl, hl, hv⟩
theorem ro_func {A : Nat → Nat → Prop} {f : FuncId} {x y : List C} {v : Value} (hr : RO F H h w A (.c (.func f x y)) v) : ∃ us vs : List Value, v = .func (.func f) us.toArray vs.toArray ∧ us.length = x.length ∧ vs.length = y.length ∧
    (∀ (j : Nat) (c : C) (u : Value), x[j]? = some c → us[j]? = some u → VR F w c u) ∧ (∀ (j : Nat) (c : C) (u : Value), y[j]? = some c → vs[j]? = some u → VR F w c u) := by
  cases hr with | c hv => cases hv with | func ha hb hva hvb => exact ⟨_, _, rfl, ha, hb, hva, hvb⟩
theorem ro_funcO {A : Nat → Nat → Prop} {f : FuncId} {x y : List O} {v : Value} (hr : RO F H h w A (.func f x y) v) : ∃ us vs : List Value, v = .func (.func f) us.toArray vs.toArray ∧ us.length = x.length ∧ vs.length = y.length ∧
    (∀ (j : Nat) (c : O) (u : Value), x[j]? = some c → us[j]? = some u → RO F H h w A c u) ∧ (∀ (j : Nat) (c : O) (u : Value), y[j]? = some c → vs[j]? = some u → RO F H h w A c u) := by
  cases hr with | func ha hb hva hvb => exact ⟨_, _, rfl, ha, hb, hva, hvb⟩

/-- How the model's operation and the machine's go together. -/
inductive TrP (P : Program) : Op → POp → Prop
  | move {x : Operand} {y : Arg} (hx : TrA x y) : TrP P (.move x) (.move y)
  | assign {x : Operand} {y : Arg} (hx : TrA x y) : TrP P (.assign x) (.move y)
  | pick {c x y : Operand} {c' x' y' : Arg} (hc : TrA c c') (hx : TrA x x') (hy : TrA y y') : TrP P (.pick c x y) (.pick c' x' y')
  | nilCheck {x : Operand} {y : Arg} (hx : TrA x y) : TrP P (.nilCheck x) (.nilCheck y)
  | panic {x : Operand} : TrP P (.panic x) (.nilCheck (.k .nilp))
  | bin {op : BinOp} {t u : TypeId} {x y : Operand} {x' y' : Arg} (hx : TrA x x') (hy : TrA y y') : TrP P (.binOp op t x y u) (.bin op x' y')
  | eqBool {op : BinOp} {t u : TypeId} {x y : Operand} {x' y' : Arg} {ng : Bool} (ho : op = if ng then .neq else .eql) (ht : P.underlying t = some .bool) (hx : TrA x x') (hy : TrA y y') : TrP P (.binOp op t x y u) (.eqBool ng x' y')
  | eqNil {op : BinOp} {t u e : TypeId} {x : Operand} {x' : Arg} {ng : Bool} (ho : op = if ng then .neq else .eql) (ht : P.underlying t = some (.pointer e)) (hx : TrA x x') : TrP P (.binOp op t x (.const (.pointer none)) u) (.eqNil ng x')
  | not {t : TypeId} {x : Operand} {y : Arg} (hx : TrA x y) : TrP P (.unOp .not t x) (.not y)
  | neg {t : TypeId} {x : Operand} {y : Arg} (hx : TrA x y) : TrP P (.unOp .neg t x) (.neg y)
  | conv {s t : TypeId} {k : IntKind} {ds : TypeDesc} {x : Operand} {y : Arg} (hs : P.underlying s = some ds) (ht : P.underlying t = some (.int k)) (hx : TrA x y) : TrP P (.convert s t x) (.conv k y)
  | fieldAddr {t : TypeId} {fs : Array Field} {i : Nat} {f : Field} {inf : TypeInfo} {x : Operand} {y : Arg} (ht : P.underlying t = some (.struct fs)) (hf : fs[i]? = some f) (hi : P.info? f.type = some inf) (hz : inf.size ≠ 0) (hx : TrA x y) : TrP P (.fieldAddr t x i) (.fieldAddr f.offset y)
  | indexAddr {t e : TypeId} {inf : TypeInfo} {x i : Operand} {x' i' : Arg} (ht : P.underlying t = some (.slice e)) (hi : P.info? e = some inf) (hx : TrA x x') (hi' : TrA i i') : TrP P (.indexAddr t x i) (.indexAddr inf.size x' i')
  | indexAddrArr {t e : TypeId} {n : Nat} {inf : TypeInfo} {x i : Operand} {x' i' : Arg} (ht : P.underlying t = some (.array n e)) (hi : P.info? e = some inf) (hx : TrA x x') (hi' : TrA i i') : TrP P (.indexAddr t x i) (.indexAddrArr n inf.size x' i')
  | extract {x : Operand} {x' : Arg} {i : Nat} (hx : TrA x x') : TrP P (.extract x i) (.extract x' i)
  | makeFunc {f : FuncId} {a b : Array Operand} {a' b' : List Arg} (ha : All2 TrA a.toList a') (hb : All2 TrA b.toList b') : TrP P (.makeFunc (.func f) a b) (.makeFunc f a' b')
  | len {t e : TypeId} {x : Operand} {x' : Arg} (ht : P.underlying t = some (.slice e)) (hx : TrA x x') : TrP P (.call { callee := .builtin .len, args := #[x], argTypes := #[t] }) (.len x')

theorem addr_add (b off k : Nat) : (⟨b, off, none⟩ : Addr).add k = ⟨b, off + k, none⟩ := by
  unfold Addr.add; split <;> simp_all

theorem bound_some {α : Type} {n : Nat} {i : O} {f : Nat → Option α} {r : α} (hk : bound n i f = some r) : ∃ kd m, i = .c (.int kd m) ∧ 0 ≤ m ∧ m < (n : Int) ∧ f m.toNat = some r := by
  unfold bound at hk
  split at hk <;> try (cases hk; done)
  split at hk <;> try (cases hk; done)
  rename_i e hc
  exact ⟨_, _, rfl, hc.1, hc.2, hk⟩
theorem All2.ro {x : List Operand} {y : List Arg} (hx : All2 TrA x y) (hA : AR F H h w d ts a.tmps) :
    y.length = x.length ∧ ∀ (j : Nat) (c : O) (u : Value), (y.map (rd ts))[j]? = some c → (x.map a.eval)[j]? = some u → RO F H h w (AOk d) c u := by
  induction hx with
  | nil => exact ⟨rfl, fun j c u h1 => by simp at h1⟩
  | cons h t ih =>
    refine ⟨by simp [ih.1], fun j c u h1 h2 => ?_⟩
    cases j with
    | zero => simp at h1 h2; subst h1; subst h2; exact h.ro hA
    | succ j => simp only [List.map_cons, List.getElem?_cons_succ] at h1 h2; exact ih.2 j c u h1 h2
theorem allC_eq {l : List O} {m : List C} (e : allC l = some m) : l = m.map O.c := by
  induction l generalizing m with
  | nil => simp [allC] at e; subst e; rfl
  | cons o l ih =>
    cases o <;> simp only [allC] at e <;> try (cases e; done)
    split at e
    · rename_i q e1; cases e; rw [ih e1]; rfl
    · cases e
theorem allC_map (m : List C) : allC (m.map O.c) = some m := by
  induction m with
  | nil => rfl
  | cons c m ih => simp [allC, ih]
theorem RO.pureFunc {A : Nat → Nat → Prop} {f : FuncId} {x y : List C} {v : Value} (hr : RO F H h w A (.func f (x.map O.c) (y.map O.c)) v) : VR F w (.func f x y) v := by
  obtain ⟨us, vs, rfl, h1, h2, h3, h4⟩ := ro_funcO hr
  refine .func (by simpa using h1) (by simpa using h2) (fun j c u hc hu => ?_) (fun j c u hc hu => ?_)
  · have := h3 j (.c c) u (by simp [hc]) hu; cases this with | c hv => exact hv
  · have := h4 j (.c c) u (by simp [hc]) hu; cases this with | c hv => exact hv

theorem ElemAt.add {i n e off : Nat} {a' : Addr} (h4 : ElemAt F H h w d i n e off a') (k : Nat) : ElemAt F H h w d i n e (off + k) (a'.add k) := by
  unfold ElemAt at h4 ⊢
  have im : ∀ (cs : List C), VR F w (.imm (cs.drop off)) (.pointer (some a')) → VR F w (.imm (cs.drop (off + k))) (.pointer (some (a'.add k))) := by
    intro cs hv
    have hv' := hv
    cases hv with
    | imm hl hF hc hv =>
      rw [addr_add]
      have := hv'.imm_drop k
      rwa [List.drop_drop] at this
  cases hb : getB h d i with
  | none => rw [hb] at h4; exact h4
  | vars cs => rw [hb] at h4; exact h4
  | map f => rw [hb] at h4; exact h4
  | arr sz n' get => rw [hb] at h4; exact ⟨h4.1, h4.2.1, im _ h4.2.2⟩
  | far sz n' get => rw [hb] at h4; exact fun e' => ⟨(h4 e').1, im _ (h4 e').2⟩
  | mar sz n' get =>
    rw [hb] at h4
    refine ⟨h4.1, fun e' => ?_⟩
    obtain ⟨k1, b, k2, k3⟩ := h4.2 e'
    exact ⟨k1, b, k2, by rw [k3, addr_add, Nat.add_assoc]⟩

theorem RowAt.elem {d i sz n cap : Nat} {a2 : Addr} (hr : RowAt F H h w d i sz n (some a2) cap) {e : Nat} (he : e < n) : ElemAt F H h w d i n e 0 (a2.add (e * sz)) := by
  unfold RowAt at hr
  unfold ElemAt
  have el : ∀ {get : Nat → List C}, VR F w (.slice n get) (.slice (some a2) n cap) → (∀ e, e < n → (get e).length = sz) → VR F w (.imm ((get e).drop 0)) (.pointer (some (a2.add (e * sz)))) := by
    intro get h2 h3
    obtain ⟨b, off, sz2, e2, hsz, hv⟩ := h2.elem he
    cases e2
    have : sz = sz2 := (h3 e he).symm.trans (hsz e he)
    subst this
    rw [addr_add]; simpa using hv
  cases hb : getB h d i with
  | none => rw [hb] at hr; exact hr.elim
  | vars cs => rw [hb] at hr; exact hr.elim
  | map f => rw [hb] at hr; exact hr.elim
  | arr sz' n' get =>
    rw [hb] at hr
    obtain ⟨rfl, h1, h2, h3, h4⟩ := hr
    exact ⟨h1, he, el h2 h3⟩
  | mar sz' n' get =>
    rw [hb] at hr
    obtain ⟨rfl, h1, h2⟩ := hr
    refine ⟨h1, fun e' => ⟨he, ?_⟩⟩
    rcases h2 e' with ⟨h0, _, _⟩ | ⟨b, us, t, hl, ha, _⟩
    · omega
    · cases ha
      exact ⟨b, hl, by rw [addr_add]; simp⟩
  | far sz' n' get =>
    rw [hb] at hr
    exact fun e' => ⟨he, el (hr e').1 (hr e').2⟩
theorem run_equalIn_bool (w : World) {t : TypeId} (ht : P.underlying t = some .bool) (p q : Bool) (n : Nat) : (Op.equalIn (n + 1) t (.bool p) (.bool q)).run P w = .ok (p == q) w := by
  simp [Op.equalIn, run_underlying ht]
theorem run_equal_bool (w : World) {t : TypeId} (ht : P.underlying t = some .bool) (p q : Bool) : (Op.equal t (.bool p) (.bool q)).run P w = .ok (p == q) w := run_equalIn_bool w ht p q 9999
theorem run_equalIn_nil (w : World) {t e : TypeId} (ht : P.underlying t = some (.pointer e)) (n : Nat) : (Op.equalIn (n + 1) t (.pointer none) (.pointer none)).run P w = .ok true w := by
  simp [Op.equalIn, run_underlying ht]
theorem run_equal_nil (w : World) {t e : TypeId} (ht : P.underlying t = some (.pointer e)) : (Op.equal t (.pointer none) (.pointer none)).run P w = .ok true w := run_equalIn_nil w ht 9999
theorem run_equalIn_some (w : World) {t e : TypeId} (ht : P.underlying t = some (.pointer e)) (a : Addr) (n : Nat) : (Op.equalIn (n + 1) t (.pointer (some a)) (.pointer none)).run P w = .ok false w := by
  simp [Op.equalIn, run_underlying ht]
theorem run_equal_some (w : World) {t e : TypeId} (ht : P.underlying t = some (.pointer e)) (a : Addr) : (Op.equal t (.pointer (some a)) (.pointer none)).run P w = .ok false w := run_equalIn_some w ht a 9999

set_option maxHeartbeats 2000000 in
theorem pure_sim {α : Type} {op : Op} {pop : POp} {o : Oper} (ht : TrP P op pop) (ho : o.op = op) (hA : AR F H h w d ts a.tmps) {k : O → Option α} {r : α} (hk : pureSem ts k pop = some r) :
    ∃ o' v, k o' = some r ∧ RO F H h w (AOk d) o' v ∧ (execOp a.eval o).run P w = .ok (.value v) w := by
  cases ht with
  | move hx => exact ⟨_, _, hk, hx.ro hA, by simp [execOp, ho]⟩
  | assign hx => exact ⟨_, _, hk, hx.ro hA, by simp [execOp, ho]⟩
  | @pick c x y c' x' y' hc hx hy =>
    have h1 := hc.ro hA
    simp only [pureSem] at hk
    split at hk
    · rename_i t e
      rw [e] at h1
      have h2 := ro_bool h1
      cases t with
      | true => exact ⟨_, _, by simpa using hk, hx.ro hA, by simp [execOp, ho, h2, asBool]⟩
      | false => exact ⟨_, _, by simpa using hk, hy.ro hA, by simp [execOp, ho, h2, asBool]⟩
    · cases hk
  | @nilCheck x y hx =>
    have h1 := hx.ro hA
    simp only [pureSem] at hk
    split at hk <;> try (cases hk; done)
    · rename_i e; rw [e] at h1; obtain ⟨b, off, h2, _⟩ := ro_imm h1; exact ⟨_, _, hk, h1, by simp [execOp, ho, h2]⟩
    · rename_i e; rw [e] at h1; obtain ⟨b, h2, _⟩ := ro_ref h1; exact ⟨_, _, hk, h1, by simp [execOp, ho, h2]⟩
    · rename_i e; rw [e] at h1; obtain ⟨b, h2, _⟩ := ro_eref h1; exact ⟨_, _, hk, h1, by simp [execOp, ho, h2]⟩
    · rename_i e; rw [e] at h1; obtain ⟨us, vs, h2, _⟩ := ro_func h1; exact ⟨_, _, hk, h1, by simp [execOp, ho, h2]⟩
    · rename_i e; rw [e] at h1; obtain ⟨us, vs, h2, _⟩ := ro_funcO h1; exact ⟨_, _, hk, h1, by simp [execOp, ho, h2]⟩
    · rename_i e; rw [e] at h1; cases h1
  | panic => simp [pureSem, rd, K.o] at hk
  | @bin op t u x y x' y' hx hy =>
    have h1 := hx.ro hA
    have h2 := hy.ro hA
    simp only [pureSem] at hk
    split at hk <;> try (cases hk; done)
    rename_i kx p ky q e1 e2
    rw [e1] at h1; rw [e2] at h2
    have h3 := ro_int h1
    have h4 := ro_int h2
    cases op <;> simp only [] at hk <;> (repeat' (split at hk)) <;> try (cases hk; done)
    all_goals try subst_vars
    all_goals (first
      | (simp only [cmpInt, ofBool] at hk; refine ⟨_, _, hk, .c (.bool _), ?_⟩; simp [execOp, ho, h3, h4, eqGuard, binOp, Op.intCmp]; done)
      | (rename_i e3; simp only [bitsInt, Option.some.injEq] at e3; subst e3; refine ⟨_, _, hk, .c (.int _ _), ?_⟩; simp [execOp, ho, h3, h4, eqGuard, binOp, Op.intBits]; done)
      | (refine ⟨_, _, hk, .c (.int _ _), ?_⟩; simp [execOp, ho, h3, h4, eqGuard, binOp, Op.intArith, Op.intDiv, *]; done)
      | (refine ⟨_, _, hk, .c (.int _ _), ?_⟩
         have hq : ¬ q < 0 := by omega
         simp [execOp, ho, h3, h4, eqGuard, binOp, Op.shift, hq]; done))
  | @eqBool op t u x y x' y' ng ho' ht hx hy =>
    have h1 := hx.ro hA
    have h2 := hy.ro hA
    simp only [pureSem] at hk
    split at hk <;> try (cases hk; done)
    rename_i p q e1 e2
    rw [e1] at h1; rw [e2] at h2
    have h3 := ro_bool h1
    have h4 := ro_bool h2
    refine ⟨_, _, hk, .c (.bool _), ?_⟩
    subst ho'
    cases ng <;> simp [execOp, ho, h3, h4, eqGuard, binOp, run_equal_bool w ht]
  | @eqNil op t u e x x' ng ho' ht hx =>
    have h1 := hx.ro hA
    simp only [pureSem] at hk
    subst ho'
    split at hk <;> try (cases hk; done)
    · rename_i e1; rw [e1] at h1; have h2 := ro_nilp h1
      exact ⟨_, _, hk, .c (.bool _), by cases ng <;> simp [execOp, ho, h2, eqGuard, binOp, run_equal_nil w ht, run_equal_some w ht, show a.eval (.const (.pointer none)) = .pointer none from rfl]⟩
    · rename_i e1; rw [e1] at h1; obtain ⟨b, off, h2, _⟩ := ro_imm h1
      exact ⟨_, _, hk, .c (.bool _), by cases ng <;> simp [execOp, ho, h2, eqGuard, binOp, run_equal_nil w ht, run_equal_some w ht, show a.eval (.const (.pointer none)) = .pointer none from rfl]⟩
    · rename_i e1; rw [e1] at h1; obtain ⟨b, h2, _⟩ := ro_ref h1
      exact ⟨_, _, hk, .c (.bool _), by cases ng <;> simp [execOp, ho, h2, eqGuard, binOp, run_equal_nil w ht, run_equal_some w ht, show a.eval (.const (.pointer none)) = .pointer none from rfl]⟩
  | not hx =>
    have h1 := hx.ro hA
    simp only [pureSem] at hk
    split at hk <;> try (cases hk; done)
    rename_i e1; rw [e1] at h1; have h2 := ro_bool h1
    exact ⟨_, _, hk, .c (.bool _), by simp [execOp, ho, h2, Op.unary]⟩
  | neg hx =>
    have h1 := hx.ro hA
    simp only [pureSem] at hk
    split at hk <;> try (cases hk; done)
    rename_i e1; rw [e1] at h1; have h2 := ro_int h1
    exact ⟨_, _, hk, .c (.int _ _), by simp [execOp, ho, h2, Op.unary, Op.intArith]⟩
  | conv hs ht hx =>
    have h1 := hx.ro hA
    simp only [pureSem] at hk
    split at hk <;> try (cases hk; done)
    rename_i e1; rw [e1] at h1; have h2 := ro_int h1
    exact ⟨_, _, hk, .c (.int _ _), by simp [execOp, ho, h2, convert, run_underlying hs, run_underlying ht, Conv.intToInt]⟩
  | @fieldAddr t fs i f inf x y ht hf hi hz hx =>
    have h1 := hx.ro hA
    simp only [pureSem] at hk
    split at hk <;> try (cases hk; done)
    · rename_i e1; rw [e1] at h1; obtain ⟨b, off, h2, h3⟩ := ro_imm h1
      exact ⟨_, _, hk, .c (h3.imm_drop f.offset), by simp [execOp, ho, h2, Instr.fieldAt, run_underlying ht, hf, Instr.sureAddr, fieldPlace, sizeOf, typeInfo, hi, hz, addr_add]⟩
    · rename_i e1; rw [e1] at h1; obtain ⟨b, h2, h3, h4, h5⟩ := ro_ref h1
      exact ⟨_, _, hk, .ref h3 h4 h5, by simp [execOp, ho, h2, Instr.fieldAt, run_underlying ht, hf, Instr.sureAddr, fieldPlace, sizeOf, typeInfo, hi, hz, addr_add]⟩
    · rename_i e1; rw [e1] at h1; obtain ⟨a', h2, h3, h4⟩ := ro_eref h1
      refine ⟨_, .pointer (some (a'.add f.offset)), hk, .eref h3 ?_, by simp [execOp, ho, h2, Instr.fieldAt, run_underlying ht, hf, Instr.sureAddr, fieldPlace, sizeOf, typeInfo, hi, hz]⟩
      exact h4.add _
  | @indexAddr t e inf x i x' i' ht hi hx hi' =>
    have h1 := hx.ro hA
    have hj := hi'.ro hA
    simp only [pureSem] at hk
    split at hk <;> try (cases hk; done)
    · rename_i n get e1; rw [e1] at h1; obtain ⟨a', cap, h2, hn, h3⟩ := ro_slice h1
      obtain ⟨kd, m, e2, hm0, hm1, hk⟩ := bound_some hk
      rw [e2] at hj; have hj := ro_int hj
      split at hk <;> try (cases hk; done)
      rename_i hs
      obtain ⟨b, off, sz, rfl, hsz, hv⟩ := h3.elem (e := m.toNat) (by omega)
      have hs2 : inf.size = sz := by rw [← hs]; exact hsz _ (by omega)
      refine ⟨_, .pointer (some ⟨b, off + m.toNat * sz, none⟩), hk, .c hv, ?_⟩
      simp [execOp, ho, h2, hj, Instr.indexAt, run_underlying ht, asIntOf, hm0, hm1, sizeOf, typeInfo, hi, addr_add, hs2]
    · rename_i dd b sz' n e1; rw [e1] at h1; obtain ⟨a', cap, h2, hAd, h3, hsm⟩ := ro_arr h1
      split at hk <;> try (cases hk; done)
      rename_i hs
      obtain ⟨kd, m, e2, hm0, hm1, hk⟩ := bound_some hk
      rw [e2] at hj; have hj := ro_int hj
      obtain ⟨a2, rfl⟩ := hsm (by omega)
      have hE := h3.elem (e := m.toNat) (by omega)
      refine ⟨_, .pointer (some (a2.add (m.toNat * inf.size))), hk, .eref hAd (by rw [← hs]; exact hE), ?_⟩
      simp [execOp, ho, h2, hj, Instr.indexAt, run_underlying ht, asIntOf, hm0, hm1, sizeOf, typeInfo, hi]
    · rename_i dd b off n sz' e1; rw [e1] at h1; obtain ⟨b', cap, off', h2, hAd, h3, h4, h5, h6⟩ := ro_vsl h1
      split at hk <;> try (cases hk; done)
      rename_i hs
      obtain ⟨kd, m, e2, hm0, hm1, hk⟩ := bound_some hk
      rw [e2] at hj; have hj := ro_int hj
      have h6 := h6 (by omega)
      refine ⟨_, .pointer (some ⟨b', off + m.toNat * inf.size, none⟩), hk, .ref hAd h3 h4, ?_⟩
      subst h6
      simp [execOp, ho, h2, hj, Instr.indexAt, run_underlying ht, asIntOf, hm0, hm1, sizeOf, typeInfo, hi, addr_add]
  | @indexAddrArr t e n inf x i x' i' ht hi hx hi' =>
    have h1 := hx.ro hA
    have hj := hi'.ro hA
    simp only [pureSem] at hk
    split at hk <;> try (cases hk; done)
    · rename_i e1; rw [e1] at h1; obtain ⟨b, off, h2, h3⟩ := ro_imm h1
      obtain ⟨kd, m, e2, hm0, hm1, hk⟩ := bound_some hk
      rw [e2] at hj; have hj := ro_int hj
      exact ⟨_, _, hk, .c (h3.imm_drop (m.toNat * inf.size)), by simp [execOp, ho, h2, hj, Instr.indexAt, run_underlying ht, Instr.sureAddr, asIntOf, hm0, hm1, sizeOf, typeInfo, hi, addr_add]⟩
    · rename_i e1; rw [e1] at h1; obtain ⟨b, h2, h3, h4, h5⟩ := ro_ref h1
      obtain ⟨kd, m, e2, hm0, hm1, hk⟩ := bound_some hk
      rw [e2] at hj; have hj := ro_int hj
      exact ⟨_, _, hk, .ref h3 h4 h5, by simp [execOp, ho, h2, hj, Instr.indexAt, run_underlying ht, Instr.sureAddr, asIntOf, hm0, hm1, sizeOf, typeInfo, hi, addr_add]⟩
    · rename_i e1; rw [e1] at h1; obtain ⟨a', h2, h3, h4⟩ := ro_eref h1
      obtain ⟨kd, m, e2, hm0, hm1, hk⟩ := bound_some hk
      rw [e2] at hj; have hj := ro_int hj
      exact ⟨_, .pointer (some (a'.add (m.toNat * inf.size))), hk, .eref h3 (h4.add _), by simp [execOp, ho, h2, hj, Instr.indexAt, run_underlying ht, Instr.sureAddr, asIntOf, hm0, hm1, sizeOf, typeInfo, hi]⟩
  | @extract x x' i hx =>
    have h1 := hx.ro hA
    simp only [pureSem] at hk
    split at hk <;> try (cases hk; done)
    · rename_i vs e1; rw [e1] at h1; obtain ⟨us, h2, hl, hv⟩ := ro_tuple h1
      split at hk <;> try (cases hk; done)
      rename_i v e3
      have hi : i < us.length := by rw [hl]; exact (List.getElem?_eq_some_iff.1 e3).1
      exact ⟨_, us[i], hk, .c (hv _ _ _ e3 (List.getElem?_eq_getElem hi)), by simp [execOp, ho, h2, Instr.extract, hi]⟩
    · rename_i vs e1; rw [e1] at h1; obtain ⟨us, h2, hl, hv⟩ := ro_tupleO h1
      split at hk <;> try (cases hk; done)
      rename_i v e3
      have hi : i < us.length := by rw [hl]; exact (List.getElem?_eq_some_iff.1 e3).1
      exact ⟨_, us[i], hk, hv _ _ _ e3 (List.getElem?_eq_getElem hi), by simp [execOp, ho, h2, Instr.extract, hi]⟩
  | @makeFunc f x y x' y' hx hy =>
    have hx' := All2.ro hx hA
    have hy' := All2.ro hy hA
    simp only [pureSem] at hk
    have hfun : RO F H h w (AOk d) (.func f (x'.map (rd ts)) (y'.map (rd ts))) (.func (.func f) (x.toList.map a.eval).toArray (y.toList.map a.eval).toArray) :=
      .func (by simp [hx'.1]) (by simp [hy'.1]) hx'.2 hy'.2
    have hrun : (execOp a.eval o).run P w = .ok (.value (.func (.func f) (x.toList.map a.eval).toArray (y.toList.map a.eval).toArray)) w := by
      simp only [execOp, ho, Instr.makeFunc]
      simp [← Array.toList_inj]
    split at hk
    · rename_i l m e1 e2
      refine ⟨_, _, hk, ?_, hrun⟩
      have k1 := allC_eq e1
      have k2 := allC_eq e2
      rw [k1, k2] at hfun
      exact .c (RO.pureFunc hfun)
    · exact ⟨_, _, hk, hfun, hrun⟩
  | @len t e x x' ht hx =>
    have h1 := hx.ro hA
    simp only [pureSem] at hk
    split at hk <;> try (cases hk; done)
    · rename_i e1; rw [e1] at h1; obtain ⟨a', cap, h2, _⟩ := ro_slice h1
      exact ⟨_, _, hk, .c (.int _ _), by simp [execOp, ho, h2, resolve, invoke, builtin, Builtin.len_, run_underlying ht, goInt]⟩
    · rename_i e1; rw [e1] at h1; obtain ⟨a', h2⟩ := ro_nils h1
      exact ⟨_, _, hk, .c (.int _ _), by simp [execOp, ho, h2, resolve, invoke, builtin, Builtin.len_, run_underlying ht, goInt]⟩
    · rename_i e1; rw [e1] at h1; obtain ⟨a', cap, h2, _⟩ := ro_arr h1
      exact ⟨_, _, hk, .c (.int _ _), by simp [execOp, ho, h2, resolve, invoke, builtin, Builtin.len_, run_underlying ht, goInt]⟩
    · rename_i e1; rw [e1] at h1; obtain ⟨b, cap, off', h2, _⟩ := ro_vsl h1
      exact ⟨_, _, hk, .c (.int _ _), by simp [execOp, ho, h2, resolve, invoke, builtin, Builtin.len_, run_underlying ht, goInt]⟩
end
end Go.Ab

/-! ## As4 -/
namespace Go.Ab
open Go.RowKit

/-- Types of whole numbers and bools alone, cell by cell. -/
inductive Flat (P : Program) : Nat → TypeId → List Bool → Prop
  | int {d : Nat} {t : TypeId} {k : IntKind} (h : P.underlying t = some (.int k)) : Flat P (d + 1) t [true]
  | bool {d : Nat} {t : TypeId} (h : P.underlying t = some .bool) : Flat P (d + 1) t [false]
  | struct {d : Nat} {t : TypeId} {fs : Array Field} {i : TypeInfo} (h : P.underlying t = some (.struct fs)) (hi : P.info? t = some i) (hp : P.stoodInHeld t = false)
      (kss : List (List Bool)) (hl : kss.length = fs.size) (hz : i.size = kss.flatten.length) (hne : ∀ (j : Nat) (f : Field), fs[j]? = some f → f.name ≠ "_") (ho : ∀ (j : Nat) (f : Field), fs[j]? = some f → f.offset = (kss.take j).flatten.length)
      (hf : ∀ (j : Nat) (f : Field) (ks : List Bool), fs[j]? = some f → kss[j]? = some ks → Flat P d f.type ks) : Flat P (d + 1) t kss.flatten
  | array {d : Nat} {t e : TypeId} {len : Nat} {i i2 : TypeInfo} (ks : List Bool) (h : P.underlying t = some (.array len e)) (hi : P.info? e = some i) (hz : i.size = ks.length) (hi2 : P.info? t = some i2) (hz2 : i2.size = len * ks.length) (hf : Flat P d e ks) :
      Flat P (d + 1) t (List.replicate len ks).flatten

theorem eqCells_cons {k : Bool} {ks : List Bool} {x y : List C} {b : Bool} (h : eqCells (k :: ks) x y = some b) : ∃ c r c' s e t, x = c :: r ∧ y = c' :: s ∧ eqCells ks r s = some t ∧ b = (e && t) ∧ (∀ (k2 : List Bool) (r' s' : List C) (t' : Bool), eqCells k2 r' s' = some t' → eqCells (k :: k2) (c :: r') (c' :: s') = some (e && t')) := by
  cases x with
  | nil => cases k <;> simp [eqCells] at h
  | cons c r =>
    cases y with
    | nil => cases k <;> cases c <;> simp [eqCells] at h
    | cons c' s =>
      cases k with
      | false =>
        cases c with
        | bool p => cases c' with
          | bool q =>
            simp only [eqCells] at h
            split at h
            · rename_i t e; cases h; exact ⟨_, _, _, _, (p == q), t, rfl, rfl, e, rfl, fun k2 r' s' t' h' => by simp only [eqCells, h']⟩
            · cases h
          | _ => simp [eqCells] at h
        | _ => simp [eqCells] at h
      | true =>
        cases c with
        | int k1 p => cases c' with
          | int k2 q =>
            simp only [eqCells] at h
            split at h
            · rename_i hk
              split at h
              · rename_i t e; cases h; exact ⟨_, _, _, _, (p == q), t, rfl, rfl, e, rfl, fun k2 r' s' t' h' => by simp only [eqCells, h', hk, if_true]⟩
              · cases h
            · cases h
          | _ => simp [eqCells] at h
        | _ => simp [eqCells] at h
theorem eqCells_length {ks : List Bool} {x y : List C} {b : Bool} (h : eqCells ks x y = some b) : x.length = ks.length ∧ y.length = ks.length := by
  induction ks generalizing x y b with
  | nil => cases x with
    | nil => cases y with
      | nil => exact ⟨rfl, rfl⟩
      | cons _ _ => simp [eqCells] at h
    | cons _ _ => simp [eqCells] at h
  | cons k ks ih =>
    obtain ⟨c, r, c', s, e, t, rfl, rfl, h1, _⟩ := eqCells_cons h
    obtain ⟨e1, e2⟩ := ih h1
    exact ⟨by simp [e1], by simp [e2]⟩
theorem eqCells_append {k1 k2 : List Bool} {x y : List C} {b : Bool} (h : eqCells (k1 ++ k2) x y = some b) :
    ∃ b1 b2, eqCells k1 (x.take k1.length) (y.take k1.length) = some b1 ∧ eqCells k2 (x.drop k1.length) (y.drop k1.length) = some b2 ∧ b = (b1 && b2) := by
  induction k1 generalizing x y b with
  | nil => exact ⟨true, b, by simp [eqCells], by simpa using h, by simp⟩
  | cons k ks ih =>
    obtain ⟨c, r, c', s, e, t, rfl, rfl, h1, rfl, h2⟩ := eqCells_cons h
    obtain ⟨b1, b2, e1, e2, rfl⟩ := ih h1
    exact ⟨e && b1, b2, h2 _ _ _ _ e1, by simpa using e2, by simp [Bool.and_assoc]⟩

section
variable {F : Fz} {H : Hs} {h : Heap} {w : World} {d : Nat} {ts : List O} {a : Act} {P : Program}

/-- Cells of the model from a place on, and what they are told to be. -/
def CellsAt (F : Fz) (w : World) (us : Array Value) (off : Nat) (cs : List C) : Prop := ∀ j c, cs[j]? = some c → ∃ u, us[off + j]? = some u ∧ VR F w c u
theorem CellsAt.left {us : Array Value} {off : Nat} {x y : List C} (hc : CellsAt F w us off (x ++ y)) : CellsAt F w us off x := fun j c hj => hc j c (by
  have := (List.getElem?_eq_some_iff.1 hj).1
  rw [List.getElem?_append_left this]; exact hj)
theorem CellsAt.right {us : Array Value} {off : Nat} {x y : List C} (hc : CellsAt F w us off (x ++ y)) : CellsAt F w us (off + x.length) y := fun j c hj => by
  have := hc (x.length + j) c (by rw [List.getElem?_append_right (by omega)]; simpa using hj)
  rwa [← Nat.add_assoc] at this

theorem CellsAt.extract {A : Array Value} {o n : Nat} {z : List C} (hz' : CellsAt F w A o z) (hzl : z.length = n) : CellsAt F w (A.extract o (o + n)) 0 z := by
  intro j c hj
  obtain ⟨u, hu, hv⟩ := hz' j c hj
  refine ⟨u, ?_, hv⟩
  have hjl := (List.getElem?_eq_some_iff.1 hj).1
  have hul := (Array.getElem?_eq_some_iff.1 hu).1
  rw [Array.getElem?_extract]
  simp only [Nat.zero_add]
  rw [if_pos (by omega)]
  exact hu
theorem run_part_agg {t : TypeId} {td : TypeDesc} {i : TypeInfo} (ht : P.underlying t = some td) (hg : (match td with | .struct _ | .array _ _ => true | _ => false) = true) (hi : P.info? t = some i) (cs : Array Value) (off : Nat) :
    (part t cs off).run P w = .ok (.agg (cs.extract off (off + i.size))) w := by
  cases td <;> simp at hg <;> simp [part, isAgg, run_underlying ht, sizeOf, typeInfo, hi]
theorem run_part_cell {t : TypeId} {td : TypeDesc} (ht : P.underlying t = some td) (hg : (match td with | .struct _ | .array _ _ => true | _ => false) = false) {cs : Array Value} {off : Nat} {v : Value} (hv : cs[off]? = some v) :
    (part t cs off).run P w = .ok v w := by
  cases td <;> simp at hg <;> simp [part, isAgg, run_underlying ht, hv]

/-- A value of such a type as it stands at some place of a row. -/
theorem flat_eq {d : Nat} {t : TypeId} {ks : List Bool} (hf : Flat P d t ks) : ∀ {us vs : Array Value} {o1 o2 : Nat} {x y : List C} {b : Bool}, eqCells ks x y = some b → CellsAt F w us o1 x → CellsAt F w vs o2 y →
    ∃ p q, (part t us o1).run P w = .ok p w ∧ (part t vs o2).run P w = .ok q w ∧ (Op.equalIn d t p q).run P w = .ok b w := by
  induction hf with
  | @int d t k ht =>
    intro us vs o1 o2 x y b he hx hy
    obtain ⟨l1, l2⟩ := eqCells_length he
    obtain ⟨c, rfl⟩ : ∃ c, x = [c] := List.length_eq_one_iff.1 l1
    obtain ⟨c', rfl⟩ : ∃ c, y = [c] := List.length_eq_one_iff.1 l2
    obtain ⟨u, hu, hcu⟩ := hx 0 c rfl
    obtain ⟨v, hv, hcv⟩ := hy 0 c' rfl
    refine ⟨u, v, run_part_cell ht rfl hu, run_part_cell ht rfl hv, ?_⟩
    cases c <;> cases c' <;> simp only [eqCells] at he <;> try (cases he; done)
    split at he <;> try (cases he; done)
    rename_i hk
    cases he; cases hcu; cases hcv; subst hk
    simpa using run_equalIn_int w d t _ k _ _ ht
  | @bool d t ht =>
    intro us vs o1 o2 x y b he hx hy
    obtain ⟨l1, l2⟩ := eqCells_length he
    obtain ⟨c, rfl⟩ : ∃ c, x = [c] := List.length_eq_one_iff.1 l1
    obtain ⟨c', rfl⟩ : ∃ c, y = [c] := List.length_eq_one_iff.1 l2
    obtain ⟨u, hu, hcu⟩ := hx 0 c rfl
    obtain ⟨v, hv, hcv⟩ := hy 0 c' rfl
    refine ⟨u, v, run_part_cell ht rfl hu, run_part_cell ht rfl hv, ?_⟩
    cases c <;> cases c' <;> simp only [eqCells] at he <;> try (cases he; done)
    cases he; cases hcu; cases hcv
    simpa using run_equalIn_bool w ht _ _ d
  | @struct d t fs i h hi hp kss hl hz hne ho hff ih =>
    intro us vs o1 o2 x y b he hx hy
    obtain ⟨l1, l2⟩ := eqCells_length he
    refine ⟨_, _, run_part_agg h rfl hi us o1, run_part_agg h rfl hi vs o2, ?_⟩
    have hfs : P.fieldsOf t = fs := by simp [Program.fieldsOf, h]
    rw [run_equalIn_struct w d t _ _ (by rw [hfs]; exact h) hp, hfs]
    have hx' := hx.extract (n := i.size) (by rw [l1, hz])
    have hy' := hy.extract (n := i.size) (by rw [l2, hz])
    generalize us.extract o1 (o1 + i.size) = A at hx'
    generalize vs.extract o2 (o2 + i.size) = B at hy'
    clear hx hy
    -- the fields one by one
    have key : ∀ (fl : List Field) (k2 : List (List Bool)) (j : Nat) (x y : List C) (b : Bool), fl = fs.toList.drop j → k2 = kss.drop j → eqCells k2.flatten x y = some b →
        CellsAt F w A (kss.take j).flatten.length x → CellsAt F w B (kss.take j).flatten.length y → (Op.eqFields d A B fl).run P w = .ok b w := by
      intro fl
      induction fl with
      | nil =>
        intro k2 j x y b hfl hk2 he hx hy
        have hj : fs.toList.length ≤ j := by
          have := congrArg List.length hfl
          simp at this; simp; omega
        have : k2 = [] := by rw [hk2]; exact List.drop_eq_nil_of_le (by rw [hl]; simpa using hj)
        subst this
        cases x <;> cases y <;> simp [eqCells] at he
        subst he
        simp [Op.eqFields]
      | cons f fl ihl =>
        intro k2 j x y b hfl hk2 he hx hy
        have hfj : fs[j]? = some f := by
          have h1 : (fs.toList.drop j)[0]? = some f := by rw [← hfl]; rfl
          rw [List.getElem?_drop] at h1; simpa using h1
        have hjl : j < kss.length := by rw [hl]; exact (Array.getElem?_eq_some_iff.1 hfj).1
        have hkj : k2 = kss[j] :: kss.drop (j + 1) := by rw [hk2]; exact List.drop_eq_getElem_cons hjl
        rw [hkj, List.flatten_cons] at he
        obtain ⟨b1, b2, e1, e2, rfl⟩ := eqCells_append he
        obtain ⟨q1, q2⟩ := eqCells_length he
        have hoff := ho j f hfj
        have xs : x = x.take kss[j].length ++ x.drop kss[j].length := (List.take_append_drop _ _).symm
        have ys : y = y.take kss[j].length ++ y.drop kss[j].length := (List.take_append_drop _ _).symm
        have hlen : kss[j].length ≤ x.length := by rw [q1]; simp
        have hlen2 : kss[j].length ≤ y.length := by rw [q2]; simp
        have hx1 : CellsAt F w A f.offset (x.take kss[j].length) := by rw [hoff]; rw [xs] at hx; exact hx.left
        have hy1 : CellsAt F w B f.offset (y.take kss[j].length) := by rw [hoff]; rw [ys] at hy; exact hy.left
        obtain ⟨p, q, r1, r2, r3⟩ := ih j f kss[j] hfj (List.getElem?_eq_getElem hjl) e1 hx1 hy1
        have htk : (kss.take (j + 1)).flatten.length = (kss.take j).flatten.length + kss[j].length := by
          rw [List.take_succ_eq_append_getElem hjl]
          simp only [List.flatten_append, List.length_append, List.flatten_cons, List.flatten_nil, List.append_nil]
        have hrest : (Op.eqFields d A B fl).run P w = .ok b2 w := by
          refine ihl (kss.drop (j + 1)) (j + 1) (x.drop kss[j].length) (y.drop kss[j].length) b2 ?_ rfl e2 ?_ ?_
          · have := congrArg List.tail hfl
            simpa [List.tail_drop] using this
          · rw [htk]; rw [xs] at hx
            have := hx.right
            rwa [List.length_take, Nat.min_eq_left hlen] at this
          · rw [htk]; rw [ys] at hy
            have := hy.right
            rwa [List.length_take, Nat.min_eq_left hlen2] at this
        simp only [Op.eqFields]
        rw [if_pos (hne j f hfj)]
        simp only [Sem.run_bind, r1, r2, r3, Result.andThen_ok]
        cases b1
        · simp
        · simpa using hrest
    exact key _ _ 0 x y b (by simp) (by simp) he (by simpa using hx') (by simpa using hy')
  | @array d t e len i i2 ks h hi hz hi2 hz2 hff ih =>
    intro us vs o1 o2 x y b he hx hy
    obtain ⟨l1, l2⟩ := eqCells_length he
    have hlen : (List.replicate len ks).flatten.length = i2.size := by rw [hz2]; simp
    refine ⟨_, _, run_part_agg h rfl hi2 us o1, run_part_agg h rfl hi2 vs o2, ?_⟩
    rw [run_equalIn_array w d _ _ h hi]
    have hce : P.cellsOf e = ks.length := by simp [Program.cellsOf, hi, hz]
    rw [hce]
    have hx' := hx.extract (n := i2.size) (by rw [l1, hlen])
    have hy' := hy.extract (n := i2.size) (by rw [l2, hlen])
    generalize us.extract o1 (o1 + i2.size) = A at hx'
    generalize vs.extract o2 (o2 + i2.size) = B at hy'
    clear hx hy l1 l2 hlen hz2
    have key : ∀ (m j : Nat) (x y : List C) (b : Bool), eqCells (List.replicate m ks).flatten x y = some b → CellsAt F w A (j * ks.length) x → CellsAt F w B (j * ks.length) y →
        (Op.eqItems d e ks.length A B (List.range' j m)).run P w = .ok b w := by
      intro m
      induction m with
      | zero =>
        intro j x y b he hx hy
        cases x <;> cases y <;> simp [eqCells] at he
        subst he
        simp [Op.eqItems]
      | succ m ihm =>
        intro j x y b he hx hy
        rw [List.replicate_succ, List.flatten_cons] at he
        obtain ⟨b1, b2, e1, e2, rfl⟩ := eqCells_append he
        obtain ⟨q1, q2⟩ := eqCells_length he
        have xs : x = x.take ks.length ++ x.drop ks.length := (List.take_append_drop _ _).symm
        have ys : y = y.take ks.length ++ y.drop ks.length := (List.take_append_drop _ _).symm
        have hl1 : ks.length ≤ x.length := by rw [q1]; simp
        have hl2 : ks.length ≤ y.length := by rw [q2]; simp
        rw [xs] at hx; rw [ys] at hy
        obtain ⟨p, q, r1, r2, r3⟩ := ih e1 hx.left hy.left
        have h1 := hx.right
        have h2 := hy.right
        rw [List.length_take, Nat.min_eq_left hl1] at h1
        rw [List.length_take, Nat.min_eq_left hl2] at h2
        have hrest := ihm (j + 1) (x.drop ks.length) (y.drop ks.length) b2 e2 (by rw [Nat.succ_mul]; exact h1) (by rw [Nat.succ_mul]; exact h2)
        rw [List.range'_succ]
        simp only [Op.eqItems, Sem.run_bind, r1, r2, r3, Result.andThen_ok]
        cases b1
        · simp
        · simpa using hrest
    rw [List.range_eq_range']
    exact key len 0 x y b he (by simpa using hx') (by simpa using hy')
end
end Go.Ab

/-! ## As5 -/
namespace Go.Ab
open Go.RowKit

/-- A cell at zero. -/
inductive ZR : O → Value → Prop
  | k {k : K} {v : Value} (h : KV k v) : ZR k.o v
  | undef (v : Value) : ZR .undef v

section
variable {F : Fz} {H : Hs} {h : Heap} {w : World} {d : Nat} {ts : List O} {a : Act} {P : Program}

theorem ZR.ro {A : Nat → Nat → Prop} {o : O} {v : Value} (hz : ZR o v) : RO F H h w A o v := by
  cases hz with
  | k hk => exact hk.ro
  | undef v => exact .undef v

/-- Cells of a row, pointwise. -/
def ROs (F : Fz) (H : Hs) (h : Heap) (w : World) (A : Nat → Nat → Prop) (cs : List O) (us : List Value) : Prop :=
  us.length = cs.length ∧ ∀ (j : Nat) (c : O) (u : Value), cs[j]? = some c → us[j]? = some u → RO F H h w A c u
theorem ROs.take {A : Nat → Nat → Prop} {cs : List O} {us : List Value} (hr : ROs F H h w A cs us) (n : Nat) : ROs F H h w A (cs.take n) (us.take n) :=
  ⟨by simp [hr.1], fun j c u hc hu => by
    rw [List.getElem?_take] at hc hu
    split at hc
    · rename_i hj; rw [if_pos hj] at hu; exact hr.2 j c u hc hu
    · cases hc⟩
theorem ROs.drop {A : Nat → Nat → Prop} {cs : List O} {us : List Value} (hr : ROs F H h w A cs us) (n : Nat) : ROs F H h w A (cs.drop n) (us.drop n) :=
  ⟨by simp [hr.1], fun j c u hc hu => by
    rw [List.getElem?_drop] at hc hu
    exact hr.2 _ c u hc hu⟩
theorem ROs.append {A : Nat → Nat → Prop} {cs cs' : List O} {us us' : List Value} (hr : ROs F H h w A cs us) (hr' : ROs F H h w A cs' us') : ROs F H h w A (cs ++ cs') (us ++ us') :=
  ⟨by simp [hr.1, hr'.1], fun j c u hc hu => by
    rcases Nat.lt_or_ge j cs.length with hj | hj
    · rw [List.getElem?_append_left hj] at hc
      rw [List.getElem?_append_left (by rw [hr.1]; exact hj)] at hu
      exact hr.2 j c u hc hu
    · rw [List.getElem?_append_right hj] at hc
      rw [List.getElem?_append_right (by rw [hr.1]; exact hj), hr.1] at hu
      exact hr'.2 _ c u hc hu⟩
theorem ROs.of_c {A : Nat → Nat → Prop} {cs : List C} {us : List Value} (hl : us.length = cs.length) (hv : ∀ (j : Nat) (c : C) (u : Value), cs[j]? = some c → us[j]? = some u → VR F w c u) : ROs F H h w A (cs.map O.c) us :=
  ⟨by simp [hl], fun j c u hc hu => by
    rw [List.getElem?_map, Option.map_eq_some_iff] at hc
    obtain ⟨c', h1, rfl⟩ := hc
    exact .c (hv j c' u h1 hu)⟩
/-- A value's cells. -/
theorem RO.cells {A : Nat → Nat → Prop} {o : O} {v : Value} (hr : RO F H h w A o v) (ho : o ≠ .undef) : ROs F H h w A o.cells v.cells.toList := by
  have single : ∀ {o : O} {v : Value}, RO F H h w A o v → v.cells = #[v] → ROs F H h w A [o] v.cells.toList := by
    intro o v hr hc
    rw [hc]
    exact ⟨rfl, fun j c u h1 h2 => by
      cases j with
      | zero => simp at h1 h2; subst h1; subst h2; exact hr
      | succ j => simp at h1⟩
  cases hr with
  | undef u => exact absurd rfl ho
  | c hv =>
    cases hv with
    | agg hl hv => exact ROs.of_c hl hv
    | bool b => exact single (.c (.bool b)) rfl
    | int k n => exact single (.c (.int k n)) rfl
    | str s => exact single (.c (.str s)) rfl
    | nilp => exact single (.c .nilp) rfl
    | nilm => exact single (.c .nilm) rfl
    | nilf => exact single (.c .nilf) rfl
    | imm hl hF hc hv => exact single (.c (.imm hl hF hc hv)) rfl
    | slice0 => exact single (.c .slice0) rfl
    | slice hn hl hg hF hc h1 hv => exact single (.c (.slice hn hl hg hF hc h1 hv)) rfl
    | func ha hb hva hvb => exact single (.c (.func ha hb hva hvb)) rfl
    | tuple hl hv => exact single (.c (.tuple hl hv)) rfl
  | nils a => exact single (.nils a) rfl
  | ref hA hk hl => exact single (.ref hA hk hl) rfl
  | eref hA ha => exact single (.eref hA ha) rfl
  | arr hA hs hr => exact single (.arr hA hs hr) rfl
  | vsl hA hk hl hn ho' => exact single (.vsl hA hk hl hn ho') rfl
  | func ha hb hva hvb => exact single (.func ha hb hva hvb) rfl
  | agg hl hv => exact ⟨hl, hv⟩
  | tuple hl hv => exact single (.tuple hl hv) rfl
theorem mkAgg_ro {A : Nat → Nat → Prop} {cs : List O} {us : List Value} (hr : ROs F H h w A cs us) : RO F H h w A (mkAgg cs) (.agg us.toArray) := by
  unfold mkAgg
  split
  · rename_i l e
    have := allC_eq e
    subst this
    refine .c (.agg (by simpa using hr.1) fun j c u hc hu => ?_)
    have h1 := hr.2 j (.c c) u (by simp [hc]) hu
    cases h1 with | c hv => exact hv
  · exact .agg hr.1 hr.2

theorem fill_step {cells vc : Array Value} {off : Nat} (hle : off + vc.size ≤ cells.size) :
    (vc.zipIdx.foldl (fun cs (p : Value × Nat) => cs.setIfInBounds (off + p.2) p.1) cells).toList = cells.toList.take off ++ vc.toList ++ cells.toList.drop (off + vc.size) := by
  have key : ∀ (l : List Value) (k : Nat) (cs : Array Value), off + k + l.length ≤ cs.size →
      ((l.zipIdx k).foldl (fun cs (p : Value × Nat) => cs.setIfInBounds (off + p.2) p.1) cs).toList = cs.toList.take (off + k) ++ l ++ cs.toList.drop (off + k + l.length) := by
    intro l
    induction l with
    | nil => intro k cs hk; simp
    | cons v l ih =>
      intro k cs hk
      simp only [List.zipIdx_cons, List.foldl_cons]
      rw [ih (k + 1) _ (by simp at hk ⊢; omega)]
      simp only [Array.toList_setIfInBounds, List.length_cons] at hk ⊢
      have h1 : off + k < cs.toList.length := by simp; omega
      rw [show off + (k + 1) = off + k + 1 from rfl, List.take_succ_eq_append_getElem (by simpa using h1), List.take_set_of_le (by omega)]
      rw [List.drop_set_of_lt (by omega)]
      simp only [List.getElem_set_self, List.append_assoc, List.cons_append, List.nil_append]
      rw [show off + k + 1 + l.length = off + k + (l.length + 1) by omega]
  have := key vc.toList 0 cells (by simpa using hle)
  simp only [Nat.add_zero] at this
  rw [← Array.foldl_toList, Array.toList_zipIdx]
  simpa using this

inductive TrPart (place : Nat → Option (Nat × Nat)) : Nat × Operand → Nat × Nat × Arg → Prop
  | mk {i off n : Nat} {x : Operand} {y : Arg} (hp : place i = some (off, n)) (hx : TrA x y) : TrPart place (i, x) (off, n, y)

theorem fill_sim {place : Nat → Option (Nat × Nat)} {ps : List (Nat × Operand)} {qs : List (Nat × Nat × Arg)} (hq : All2 (TrPart place) ps qs) (hA : AR F H h w d ts a.tmps) :
    ∀ {cs cs' : List O} {us : Array Value}, fillCells ts qs cs = some cs' → ROs F H h w (AOk d) cs us.toList →
    ∃ us', Instr.fill place us (ps.map fun p => (p.1, a.eval p.2)) = some us' ∧ ROs F H h w (AOk d) cs' us'.toList := by
  induction hq with
  | nil => intro cs cs' us hf hr; simp only [fillCells, Option.some.injEq] at hf; subst hf; exact ⟨us, rfl, hr⟩
  | @cons p q l m h1 t ih =>
    intro cs cs' us hf hr
    cases h1 with
    | @mk i off n x y hp hx =>
      simp only [fillCells] at hf
      split at hf
      · rename_i hc
        obtain ⟨hc0, hc1, hc2⟩ := hc
        have hro := hx.ro hA
        have hu : rd ts y ≠ .undef := by intro e; rw [e] at hc0; simp [O.isU] at hc0
        have hcl := hro.cells hu
        have hsz : (a.eval x).cells.size = n := by rw [← hc1, ← Array.length_toList]; exact hcl.1
        have hus : us.size = cs.length := by rw [← Array.length_toList]; exact hr.1
        have hst := fill_step (cells := us) (vc := (a.eval x).cells) (off := off) (by omega)
        obtain ⟨us', e1, e2⟩ := ih (us := (a.eval x).cells.zipIdx.foldl (fun cs (p : Value × Nat) => cs.setIfInBounds (off + p.2) p.1) us) hf (by
          rw [hst, hsz]
          exact ((hr.take off).append hcl).append (hr.drop (off + n)))
        refine ⟨us', ?_, e2⟩
        simp only [List.map_cons, Instr.fill, hp, hsz]
        rw [if_neg (by simp; omega)]
        exact e1
      · cases hf

/-! ### Built values -/
theorem CellsAt.of_vr {us : List Value} {cs : List C} (hl : us.length = cs.length) (hv : ∀ (j : Nat) (c : C) (u : Value), cs[j]? = some c → us[j]? = some u → VR F w c u) : CellsAt F w us.toArray 0 cs := fun j c hj => by
  have hj' : j < us.length := by rw [hl]; exact (List.getElem?_eq_some_iff.1 hj).1
  exact ⟨us[j], by simp [hj'], hv j c _ hj (List.getElem?_eq_getElem hj')⟩
theorem ROs.zero {A : Nat → Nat → Prop} {zero : List O} {us : List Value} (hz : All2 ZR zero us) : ROs F H h w A zero us := by
  induction hz with
  | nil => exact ⟨rfl, fun j c u h1 => by simp at h1⟩
  | cons h t ih =>
    refine ⟨by simp [ih.1], fun j c u h1 h2 => ?_⟩
    cases j with
    | zero => simp at h1 h2; subst h1; subst h2; exact h.ro
    | succ j => simp only [List.getElem?_cons_succ] at h1 h2; exact ih.2 j c u h1 h2
/-- The places of a struct's or an array's parts. -/
inductive BuildAt (P : Program) (t : TypeId) : (Nat → Option (Nat × Nat)) → Prop
  | struct {fs : Array Field} {places : List (Nat × Nat)} (ht : P.underlying t = some (.struct fs)) (hp : fs.toList.mapM (fun f => (P.info? f.type).map fun i => (f.offset, i.size)) = some places) : BuildAt P t (places.toArray[·]?)
  | array {n : Nat} {e : TypeId} {i : TypeInfo} (ht : P.underlying t = some (.array n e)) (hi : P.info? e = some i) : BuildAt P t (fun k => some (k * i.size, i.size))
theorem run_build {t : TypeId} {place : Nat → Option (Nat × Nat)} (hb : BuildAt P t place) {inf : TypeInfo} {z : Value} (hi : P.info? t = some inf) (hz : inf.zero = some z) {parts : Array (Nat × Value)} {us : Array Value} (hf : Instr.fill place z.cells parts.toList = some us) :
    (Instr.build t parts).run P w = .ok (.agg us) w := by
  cases hb with
  | struct ht hp =>
    simp [Instr.build, run_underlying ht, typeInfo, zeroValue, hi, hz, Array.mapM_eq_mapM_toList, run_places w _ _ hp]
    simp at hf
    simp [hf]
  | array ht hi2 => simp [Instr.build, zeroValue, typeInfo, sizeOf, run_underlying ht, hi, hz, hi2, hf]

/-- Is a part of this type one cell, or so and so many? -/
inductive PartOf (P : Program) (t : TypeId) : Option Nat → Prop
  | cell {td : TypeDesc} (ht : P.underlying t = some td) (hg : (match td with | .struct _ | .array _ _ => true | _ => false) = false) : PartOf P t none
  | agg {td : TypeDesc} {i : TypeInfo} (ht : P.underlying t = some td) (hg : (match td with | .struct _ | .array _ _ => true | _ => false) = true) (hi : P.info? t = some i) : PartOf P t (some i.size)
theorem part_sim {A : Nat → Nat → Prop} {t : TypeId} {n : Option Nat} (hp : PartOf P t n) {cs : List O} {us : List Value} (hr : ROs F H h w A cs us) {off : Nat} (hle : off + n.getD 1 ≤ cs.length) :
    ∃ v, (part t us.toArray off).run P w = .ok v w ∧ RO F H h w A (ofCells n ((cs.drop off).take (n.getD 1))) v := by
  cases hp with
  | cell ht hg =>
    have h1 : off < us.length := by rw [hr.1]; simp at hle; omega
    have h2 : off < cs.length := by simp at hle; omega
    refine ⟨us[off], run_part_cell ht hg (by simp [h1]), ?_⟩
    have : (cs.drop off).take 1 = [cs[off]] := by rw [List.drop_eq_getElem_cons h2]; rfl
    simp only [ofCells, Option.getD_none, this, List.headD_cons]
    exact hr.2 off _ _ (List.getElem?_eq_getElem h2) (List.getElem?_eq_getElem h1)
  | @agg td i ht hg hi =>
    refine ⟨_, run_part_agg ht hg hi us.toArray off, ?_⟩
    simp only [ofCells, Option.getD_some]
    have := mkAgg_ro ((hr.drop off).take i.size)
    rw [show (us.toArray.extract off (off + i.size)) = (((us.drop off).take i.size)).toArray by
      rw [← Array.toList_inj]; simp]
    exact this
theorem ofCells_map {n : Option Nat} {cs : List C} : ofCells n (cs.map O.c) = ofCellsC n cs := by
  cases n with
  | none => cases cs <;> rfl
  | some k => simp [ofCells, ofCellsC, mkAgg, allC_map]

/-- An optional bound of a slice expression. -/
inductive TrO : Option Operand → Option Arg → Prop
  | none : TrO none none
  | some {x : Operand} {y : Arg} (h : TrA x y) : TrO (some x) (some y)
theorem sbound_sim {α : Type} {x : Option Operand} {y : Option Arg} (hx : TrO x y) (hA : AR F H h w d ts a.tmps) {dflt top : Nat} {f : Nat → Option α} {r : α} (hk : sbound ts y dflt top f = some r) :
    ∃ m, f m = some r ∧ (match x.map a.eval with | some v => ∀ (Y : Nat) (code : BoundsCode), top ≤ Y → (Instr.sliceBound v Y code).run P w = .ok m w | none => m = dflt) ∧ (m ≤ top ∨ m = dflt) := by
  cases hx with
  | none => exact ⟨_, hk, rfl, .inr rfl⟩
  | @some x y hx =>
    have h1 := hx.ro hA
    simp only [sbound] at hk
    split at hk <;> try (cases hk; done)
    rename_i kd i e
    split at hk <;> try (cases hk; done)
    rename_i hc
    rw [e] at h1
    have h2 := ro_int h1
    refine ⟨_, hk, ?_, .inl (by omega)⟩
    intro Y code hY
    have : i ≤ (Y : Int) := by omega
    simp [Instr.sliceBound, h2, asIntOf, hc.1, this]

theorem minmax_sim {α : Type} {mx : Bool} {xs : List Operand} {ys : List Arg} (hx : All2 TrA xs ys) (hA : AR F H h w d ts a.tmps) {k : O → Option α} {r : α} :
    ∀ {kd : IntKind} {m : Int}, minmaxF ts k mx kd m ys = some r → ∃ n, k (.c (.int kd n)) = some r ∧ ((xs.map a.eval).foldlM (if mx = true then Builtin.max2 else Builtin.min2) (.int kd m)).run P w = .ok (.int kd n) w := by
  induction hx with
  | nil => intro kd m hk; exact ⟨m, hk, by simp⟩
  | @cons x y l l' h1 t ih =>
    intro kd m hk
    have hr := h1.ro hA
    simp only [minmaxF] at hk
    split at hk <;> try (cases hk; done)
    rename_i k2 b e
    rw [e] at hr
    have hr := ro_int hr
    obtain ⟨n, e1, e2⟩ := ih hk
    refine ⟨n, e1, ?_⟩
    cases mx
    · simp at e2
      simp [hr, Builtin.min2, e2]
    · simp at e2
      simp [hr, Builtin.max2, e2]

inductive TrQ (P : Program) : Op → POp → Prop
  | build {t : TypeId} {place : Nat → Option (Nat × Nat)} {inf : TypeInfo} {z : Value} {zero : List O} {ps : Array (Nat × Operand)} {qs : List (Nat × Nat × Arg)} (hb : BuildAt P t place) (hi : P.info? t = some inf) (hz : inf.zero = some z)
      (hzr : All2 ZR zero z.cells.toList) (hq : All2 (TrPart place) ps.toList qs) : TrQ P (.build t ps) (.build zero qs)
  | eqAgg {op : BinOp} {t u : TypeId} {td : TypeDesc} {inf : TypeInfo} {x y : Operand} {x' y' : Arg} {ng : Bool} {ks : List Bool} (ho : op = if ng then .neq else .eql) (ht : P.underlying t = some td) (hg : (match td with | .struct _ | .array _ _ => true | _ => false) = true)
      (hi : P.info? t = some inf) (hsz : inf.size = ks.length) (hm : P.eqGuardType P.depth t = false) (hf : Flat P 10000 t ks) (hx : TrA x x') (hy : TrA y y') : TrQ P (.binOp op t x y u) (.eqAgg ng ks x' y')
  | field {t : TypeId} {fs : Array Field} {i : Nat} {f : Field} {n : Option Nat} {x : Operand} {x' : Arg} (ht : P.underlying t = some (.struct fs)) (hf : fs[i]? = some f) (hp : PartOf P f.type n) (hx : TrA x x') : TrQ P (.field t x i) (.field f.offset n x')
  | index {t e : TypeId} {len : Nat} {inf : TypeInfo} {n : Option Nat} {x i : Operand} {x' i' : Arg} (ht : P.underlying t = some (.array len e)) (hi : P.info? e = some inf) (hp : PartOf P e n) (hx : TrA x x') (hi' : TrA i i') : TrQ P (.index t x i) (.index len inf.size n x' i')
  | sindex {t : TypeId} {x i : Operand} {x' i' : Arg} (ht : P.underlying t = some .string) (hx : TrA x x') (hi' : TrA i i') : TrQ P (.index t x i) (.sindex x' i')
  | alenA {t e : TypeId} {n : Nat} {x : Operand} (ht : P.underlying t = some (.array n e)) : TrQ P (.call { callee := .builtin .len, args := #[x], argTypes := #[t] }) (.alen n)
  | alenP {t e u : TypeId} {n : Nat} {x : Operand} (ht : P.underlying t = some (.pointer u)) (hu : P.underlying u = some (.array n e)) : TrQ P (.call { callee := .builtin .len, args := #[x], argTypes := #[t] }) (.alen n)
  | max {x : Operand} {xs : List Operand} {as : Array Operand} {tys : Array TypeId} {x' : Arg} {xs' : List Arg} (ha : as.toList = x :: xs) (hx : TrA x x') (hxs : All2 TrA xs xs') : TrQ P (.call { callee := .builtin .max, args := as, argTypes := tys }) (.minmax true x' xs')
  | min {x : Operand} {xs : List Operand} {as : Array Operand} {tys : Array TypeId} {x' : Arg} {xs' : List Arg} (ha : as.toList = x :: xs) (hx : TrA x x') (hxs : All2 TrA xs xs') : TrQ P (.call { callee := .builtin .min, args := as, argTypes := tys }) (.minmax false x' xs')
  | sliceArr {t e : TypeId} {n : Nat} {inf : TypeInfo} {x : Operand} {lo hi : Option Operand} {x' : Arg} {lo' hi' : Option Arg} (ht : P.underlying t = some (.array n e)) (hi2 : P.info? e = some inf) (hx : TrA x x') (hlo : TrO lo lo') (hhi : TrO hi hi') :
      TrQ P (.slice t x lo hi none) (.sliceArr n inf.size x' lo' hi' none)

set_option maxHeartbeats 2000000 in
theorem pure_sim2 {α : Type} {op : Op} {pop : POp} {o : Oper} (ht : TrQ P op pop) (ho : o.op = op) (hA : AR F H h w d ts a.tmps) {k : O → Option α} {r : α} (hk : pureSem ts k pop = some r) :
    ∃ o' v, k o' = some r ∧ RO F H h w (AOk d) o' v ∧ (execOp a.eval o).run P w = .ok (.value v) w := by
  cases ht with
  | @build t place inf z zero ps qs hb hi hz hzr hq =>
    simp only [pureSem] at hk
    split at hk <;> try (cases hk; done)
    rename_i cs e
    obtain ⟨us, e1, e2⟩ := fill_sim hq hA e (ROs.zero hzr)
    refine ⟨_, .agg us, hk, by simpa using mkAgg_ro e2, ?_⟩
    have e3 : Instr.fill place z.cells (ps.map fun p => (p.1, a.eval p.2)).toList = some us := by simpa using e1
    have := run_build (w := w) hb hi hz e3
    simp only [execOp, ho]
    simp [this]
  | @eqAgg op t u td inf x y x' y' ng ks ho' ht hg hi hsz hm hf hx hy =>
    have h1 := hx.ro hA
    have h2 := hy.ro hA
    simp only [pureSem] at hk
    split at hk <;> try (cases hk; done)
    rename_i p q e1 e2
    split at hk <;> try (cases hk; done)
    rename_i b e3
    rw [e1] at h1; rw [e2] at h2
    obtain ⟨us, h3, hl1, hv1⟩ := ro_agg h1
    obtain ⟨vs, h4, hl2, hv2⟩ := ro_agg h2
    obtain ⟨l1, l2⟩ := eqCells_length e3
    obtain ⟨p', q', r1, r2, r3⟩ := flat_eq (w := w) hf e3 (CellsAt.of_vr hl1 hv1) (CellsAt.of_vr hl2 hv2)
    rw [run_part_agg ht hg hi] at r1 r2
    have x1 : us.toArray.extract 0 (0 + inf.size) = us.toArray := by
      rw [← Array.toList_inj]
      simp only [Array.toList_extract, List.extract_eq_take_drop, Nat.zero_add, Nat.sub_zero, List.drop_zero]
      exact List.take_of_length_le (by omega)
    have x2 : vs.toArray.extract 0 (0 + inf.size) = vs.toArray := by
      rw [← Array.toList_inj]
      simp only [Array.toList_extract, List.extract_eq_take_drop, Nat.zero_add, Nat.sub_zero, List.drop_zero]
      exact List.take_of_length_le (by omega)
    rw [x1] at r1; rw [x2] at r2
    cases r1; cases r2
    refine ⟨_, _, hk, .c (.bool _), ?_⟩
    subst ho'
    cases ng
    · simp only [execOp, ho, h3, h4, if_false, Bool.false_eq_true]
      simp [run_eqGuard_agg w _ t x y _ _ hm, run_eql_struct, r3]
    · simp only [execOp, ho, h3, h4, if_true]
      simp [run_eqGuard_agg w _ t x y _ _ hm, run_neq_struct, r3]
  | @field t fs i f n x x' ht hf hp hx =>
    have h1 := hx.ro hA
    simp only [pureSem] at hk
    split at hk <;> try (cases hk; done)
    · rename_i cs e1; rw [e1] at h1; obtain ⟨us, h2, hl, hv⟩ := ro_agg h1
      split at hk <;> try (cases hk; done)
      rename_i hle
      obtain ⟨v, r1, r2⟩ := part_sim (P := P) hp (ROs.of_c (H := H) (h := h) (A := AOk d) hl hv) (off := f.offset) (by simpa using hle)
      refine ⟨_, v, hk, ?_, by simp [execOp, ho, h2, Instr.field, run_underlying ht, hf, asAgg, r1]⟩
      rw [← ofCells_map, List.map_take, List.map_drop]
      exact r2
    · rename_i cs e1; rw [e1] at h1; obtain ⟨us, h2, hl, hv⟩ := ro_aggO h1
      split at hk <;> try (cases hk; done)
      rename_i hle
      obtain ⟨v, r1, r2⟩ := part_sim (P := P) hp ⟨hl, hv⟩ (off := f.offset) hle
      exact ⟨_, v, hk, r2, by simp [execOp, ho, h2, Instr.field, run_underlying ht, hf, asAgg, r1]⟩
  | @index t e len inf n x i x' i' ht hi hp hx hi' =>
    have h1 := hx.ro hA
    have hj := hi'.ro hA
    simp only [pureSem] at hk
    split at hk <;> try (cases hk; done)
    rename_i cs e1; rw [e1] at h1; obtain ⟨us, h2, hl, hv⟩ := ro_agg h1
    obtain ⟨kd, m, e2, hm0, hm1, hk⟩ := bound_some hk
    rw [e2] at hj; have hj := ro_int hj
    split at hk <;> try (cases hk; done)
    rename_i hle
    obtain ⟨v, r1, r2⟩ := part_sim (P := P) hp (ROs.of_c (H := H) (h := h) (A := AOk d) hl hv) (off := m.toNat * inf.size) (by simpa using hle)
    refine ⟨_, v, hk, ?_, by simp [execOp, ho, h2, hj, Instr.index, run_underlying ht, asIntOf, hm0, hm1, sizeOf, typeInfo, hi, r1]⟩
    rw [← ofCells_map, List.map_take, List.map_drop]
    exact r2
  | @sindex t x i x' i' ht hx hi' =>
    have h1 := hx.ro hA
    have hj := hi'.ro hA
    simp only [pureSem] at hk
    split at hk <;> try (cases hk; done)
    rename_i s kd m e1 e2
    rw [e1] at h1; rw [e2] at hj
    have h1 := ro_str h1
    have hj := ro_int hj
    split at hk <;> try (cases hk; done)
    rename_i hm
    split at hk <;> try (cases hk; done)
    rename_i b e3
    exact ⟨_, _, hk, .c (.int _ _), by simp [execOp, ho, h1, hj, Instr.index, run_underlying ht, asIntOf, hm, e3]⟩
  | alenA ht => exact ⟨_, _, hk, .c (.int _ _), by simp [execOp, ho, resolve, invoke, builtin, Builtin.len_, run_underlying ht, goInt]⟩
  | alenP ht hu => exact ⟨_, _, hk, .c (.int _ _), by simp [execOp, ho, resolve, invoke, builtin, Builtin.len_, run_underlying ht, run_underlying hu, goInt]⟩
  | @max x xs as tys x' xs' ha hx hxs =>
    have h1 := hx.ro hA
    simp only [pureSem] at hk
    split at hk <;> try (cases hk; done)
    rename_i kd m e; rw [e] at h1; have h1 := ro_int h1
    obtain ⟨n, e1, e2⟩ := minmax_sim (P := P) (w := w) hxs hA hk
    refine ⟨_, _, e1, .c (.int _ _), ?_⟩
    simp at e2
    simp [execOp, ho, resolve, invoke, builtin, Builtin.max_, ha, h1, e2]
  | @min x xs as tys x' xs' ha hx hxs =>
    have h1 := hx.ro hA
    simp only [pureSem] at hk
    split at hk <;> try (cases hk; done)
    rename_i kd m e; rw [e] at h1; have h1 := ro_int h1
    obtain ⟨n, e1, e2⟩ := minmax_sim (P := P) (w := w) hxs hA hk
    refine ⟨_, _, e1, .c (.int _ _), ?_⟩
    simp at e2
    simp [execOp, ho, resolve, invoke, builtin, Builtin.min_, ha, h1, e2]
  | @sliceArr t e n inf x lo hi x' lo' hi' ht hi2 hx hlo hhi =>
    have h1 := hx.ro hA
    simp only [pureSem, sliceA] at hk
    split at hk <;> try (cases hk; done)
    rename_i dd b off e1
    rw [e1] at h1
    obtain ⟨b', h2, h3, h4, h5⟩ := ro_ref h1
    obtain ⟨hh, hk, q1, q2⟩ := sbound_sim (P := P) (w := w) hhi hA hk
    obtain ⟨l, hk, q3, q4⟩ := sbound_sim (P := P) (w := w) hlo hA hk
    have hhn : hh ≤ n := by omega
    have hln : l ≤ hh := by omega
    have hb : (Instr.sliceBounds false n n (lo.map a.eval) (hi.map a.eval) none).run P w = .ok (l, hh, n) w := by
      unfold Instr.sliceBounds
      cases e5 : hi.map a.eval with
      | none =>
        rw [e5] at q1; simp only at q1; subst q1
        cases e6 : lo.map a.eval with
        | none => rw [e6] at q3; simp only at q3; subst q3; simp
        | some v => rw [e6] at q3; simp [q3 _ _ (Nat.le_refl _)]
      | some v5 =>
        rw [e5] at q1
        cases e6 : lo.map a.eval with
        | none => rw [e6] at q3; simp only at q3; subst q3; simp [q1 _ _ (Nat.le_refl _)]
        | some v => rw [e6] at q3; simp [q1 _ _ (Nat.le_refl _), q3 _ _ (Nat.le_refl _)]
    refine ⟨_, .slice (some (if n = l then ⟨b', off, none⟩ else ⟨b', off + l * inf.size, none⟩)) (hh - l) (n - l), hk, ?_, ?_⟩
    · by_cases hnl : n = l
      · rw [if_pos hnl]; exact .vsl h3 h4 h5 (by omega) (fun hp => by omega)
      · rw [if_neg hnl]; exact .vsl h3 h4 h5 (by omega) (fun _ => rfl)
    · simp [execOp, ho, h2, Instr.sliceAt, run_underlying ht, Instr.sureAddr, hb, sizeOf, typeInfo, hi2, addr_add]
end
end Go.Ab

/-! ## As6 -/
namespace Go.Ab
open Go.RowKit

/-- One step of memory: the relations hold behind it, and what stood stands. -/
structure Stp (F : Fz) (H : Hs) (h : Heap) (w : World) (F' : Fz) (H' : Hs) (h' : Heap) (w' : World) : Prop where
  sr : SR F' H' h' w'
  ext : Ext F H h w F' H' h' w'
  pres : ∀ A o v, RO F H h w A o v → RO F' H' h' w' A o v
  len : h'.length = h.length
  lens : ∀ d, (h.getD d []).length ≤ (h'.getD d []).length
theorem Stp.refl {F : Fz} {H : Hs} {h : Heap} {w : World} (S : SR F H h w) : Stp F H h w F H h w := ⟨S, Ext.refl _ _ _ _, fun _ _ _ h => h, rfl, fun _ => Nat.le_refl _⟩
theorem Stp.trans {F F' F'' : Fz} {H H' H'' : Hs} {h h' h'' : Heap} {w w' w'' : World} (a : Stp F H h w F' H' h' w') (b : Stp F' H' h' w' F'' H'' h'' w'') : Stp F H h w F'' H'' h'' w'' :=
  ⟨b.sr, a.ext.trans b.ext, fun A o v h => b.pres A o v (a.pres A o v h), b.len.trans a.len, fun d => Nat.le_trans (a.lens d) (b.lens d)⟩

section
variable {F : Fz} {H : Hs} {h : Heap} {w w' : World} {d i b : Nat}

theorem fresh_getB (hf : fresh h d i = true) : getB h d i = .none ∧ d < h.length ∧ i < (h.getD d []).length := by
  unfold fresh at hf
  split at hf
  · rename_i e
    have hi := (List.getElem?_eq_some_iff.1 e).1
    refine ⟨?_, ?_, hi⟩
    · unfold getB; rw [List.getD_eq_getElem?_getD (l := h.getD d []), e]; rfl
    · by_cases hd : d < h.length
      · exact hd
      · rw [List.getD_eq_getElem?_getD, List.getElem?_eq_none (by omega)] at hi; simp at hi
  · cases hf
theorem cell_same {b o : Nat} (e : w'.heap[b]? = w.heap[b]?) : w'.cell? ⟨b, o, none⟩ = w.cell? ⟨b, o, none⟩ := by simp [World.cell?, e]

def addF (F : Fz) (b m : Nat) : Fz := fun b' o => F b' o ∨ (b' = b ∧ o < m)
theorem addF_sub {b m : Nat} : ∀ b' o, F b' o → addF F b m b' o := fun _ _ h => .inl h

/-- A row of elements, its value of the given length: where its block ends up. -/
theorem RowC.mono {F' : Fz} {us : Array Value} {sz n : Nat} {get : Nat → List C} (hF : ∀ b o, F b o → F' b o) (hw : ∀ b o, F b o → w'.cell? ⟨b, o, none⟩ = w.cell? ⟨b, o, none⟩) (hr : RowC F w us sz n get) : RowC F' w' us sz n get :=
  ⟨hr.1, hr.2.1, hr.2.2.1, fun e j c u he hc hu => ⟨(hr.2.2.2 e j c u he hc hu).1.mono hF hw, (hr.2.2.2 e j c u he hc hu).2⟩⟩

def NewOk (F : Fz) (H : Hs) (h : Heap) (w : World) (d : Nat) (us : Array Value) (m : Nat) : Blk → Prop
  | .vars cs => m = 0 ∧ cs.length ≤ us.size ∧ ∀ (j : Nat) (o : O) (u : Value), cs[j]? = some o → us[j]? = some u → RO F H h w (AOk d) o u
  | .arr sz n get => m = n * sz ∧ RowC F w us sz n get
  | .mar sz n get => m = 0 ∧ RowC F w us sz n get
  | _ => False

/-- A new block of the model's memory. -/
theorem SR.new (S : SR F H h w) (hf : fresh h d i = true) {us : Array Value} {t : TypeId} (hh : w'.heap = w.heap.push (.cells us t (0, 0))) (hos : w'.os = w.os) (htape : w'.tape = w.tape) (hout : w'.output = w.output)
    {b' : Blk} {m : Nat} (hB : NewOk F H h w d us m b') : Stp F H h w (addF F w.heap.size m) (setL H d i (some w.heap.size)) (setB h d i b') w' := by
  obtain ⟨hn, hd, hi⟩ := fresh_getB hf
  have hold : ∀ b, b < w.heap.size → w'.heap[b]? = w.heap[b]? := fun b hb => by rw [hh, Array.getElem?_push]; rw [if_neg (by omega)]
  have hnew : w'.heap[w.heap.size]? = some (.cells us t (0, 0)) := by rw [hh]; simp
  have hsize : w'.heap.size = w.heap.size + 1 := by rw [hh]; simp
  have hcell : ∀ b o, F b o → w'.cell? ⟨b, o, none⟩ = w.cell? ⟨b, o, none⟩ := fun b o hb => cell_same (hold b (S.flt b o hb))
  have hnF : ∀ o, ¬ F w.heap.size o := fun o q => absurd (S.flt _ _ q) (by omega)
  have gL := loc_setL H d i (some w.heap.size) (by rw [S.len]; exact hd) (by rw [S.lens]; exact hi)
  have hself : loc (setL H d i (some w.heap.size)) d i = some w.heap.size := by rw [gL]; simp
  obtain ⟨a, b, c⟩ := S.upd (F' := addF F w.heap.size m) (w' := w') (b' := b') (x := some w.heap.size) hd hi hos htape hout (by omega) addF_sub hcell (fun sz n g => by rw [hn]; simp)
    (fun b hb => by cases hb; exact ⟨by omega, .inr (Nat.le_refl _)⟩)
    (fun b hb _ => ⟨hold b hb, fun o q => by rcases q with q | ⟨q, _⟩; exact q; omega⟩)
    (fun b o q => by rcases q with q | ⟨q, _⟩; have := S.flt b o q; omega; omega)
    (by rw [hn]; trivial)
    (fun pres => by
      cases b' with
      | none => exact hB.elim
      | far sz n g => exact hB.elim
      | map f => exact hB.elim
      | vars cs =>
        obtain ⟨rfl, h1, h2⟩ := hB
        exact ⟨_, us, t, hself, hnew, h1, fun o q => by rcases q with q | ⟨_, q⟩; exact hnF o q; omega, fun j o u ho hu => pres _ _ _ (h2 j o u ho hu)⟩
      | arr sz n get =>
        obtain ⟨rfl, h1⟩ := hB
        exact .inr ⟨_, us, t, hself, hnew, fun o => ⟨fun q => by rcases q with q | ⟨_, q⟩; exact absurd q (hnF o); exact q, fun q => .inr ⟨rfl, q⟩⟩, h1.mono addF_sub hcell⟩
      | mar sz n get =>
        obtain ⟨rfl, h1⟩ := hB
        exact .inr ⟨_, us, t, hself, hnew, fun o q => by rcases q with q | ⟨_, q⟩; exact hnF o q; omega, h1.mono addF_sub hcell⟩)
  exact ⟨a, b, c, len_setB _ _ _ _, fun d => Nat.le_of_eq (lens_setB _ _ _ _ d).symm⟩

/-- An empty row that has no block in the model yet. -/
theorem SR.newNil (S : SR F H h w) (hf : fresh h d i = true) {b' : Blk} (hB : (∃ sz g, b' = .arr sz 0 g) ∨ (∃ sz g, b' = .mar sz 0 g)) : Stp F H h w F (setL H d i none) (setB h d i b') w := by
  obtain ⟨hn, hd, hi⟩ := fresh_getB hf
  have gL := loc_setL H d i none (by rw [S.len]; exact hd) (by rw [S.lens]; exact hi)
  have hself : loc (setL H d i none) d i = none := by rw [gL]; simp
  obtain ⟨a, b, c⟩ := S.upd (F' := F) (w' := w) (b' := b') (x := none) hd hi rfl rfl rfl (Nat.le_refl _) (fun _ _ q => q) (fun _ _ _ => rfl) (fun sz n g => by rw [hn]; simp)
    (fun b hb => by cases hb) (fun b hb _ => ⟨rfl, fun o q => q⟩) S.flt (by rw [hn]; trivial)
    (fun pres => by
      rcases hB with ⟨sz, g, rfl⟩ | ⟨sz, g, rfl⟩
      · exact .inl ⟨rfl, hself⟩
      · exact .inl ⟨rfl, hself⟩)
  exact ⟨a, b, c, len_setB _ _ _ _, fun d => Nat.le_of_eq (lens_setB _ _ _ _ d).symm⟩

/-- Cells written in place. -/
theorem SR.put (S : SR F H h w) {cs cs' : List O} (hb : getB h d i = .vars cs) {us us' : Array Value} {t : TypeId} (hl : loc H d i = some b) (hh : w.heap[b]? = some (.cells us t (0, 0))) (hs : us'.size = us.size) (hc : cs'.length ≤ us'.size)
    (hv : ∀ (j : Nat) (o : O) (u : Value), cs'[j]? = some o → us'[j]? = some u → RO F H h w (AOk d) o u) : Stp F H h w F (setL H d i (some b)) (setB h d i (.vars cs')) (w.setRow b us') := by
  obtain ⟨hd, hi⟩ := getB_in (h := h) (d := d) (i := i) (by rw [hb]; simp)
  have hbl := S.blk d i
  rw [hb] at hbl
  obtain ⟨b2, us2, t2, q1, q2, q3, q4, q5⟩ := hbl
  rw [hl] at q1; cases q1
  have gL := loc_setL H d i (some b) (by rw [S.len]; exact hd) (by rw [S.lens]; exact hi)
  have gB := getB_setB h d i (.vars cs') hd hi
  have hself : loc (setL H d i (some b)) d i = some b := by rw [gL]; simp
  have hlt := S.lt _ _ _ hl
  obtain ⟨a, b, c⟩ := S.upd (F' := F) (w' := w.setRow b us') (b' := .vars cs') (x := some b) hd hi rfl rfl rfl (by simp) (fun _ _ q => q)
    (fun b' o q => cell_setRow_other w b us' _ (by intro e; simp at e; subst e; exact q4 o q)) (fun sz n g => by rw [hb]; simp)
    (fun b' hb' => by cases hb'; exact ⟨by simpa using hlt, .inl hl⟩)
    (fun b' _ hne => ⟨setRow_other w b b' us' (fun e => hne (by rw [e]; exact hl)), fun o q => q⟩)
    (fun b' o q => by simpa using S.flt b' o q)
    (by rw [hb]; exact ⟨by rw [gB]; simp [isVars], by rw [hself, hl]⟩)
    (fun pres => ⟨b, us', t, hself, setRow_heap w b us us' t _ hh, hc, q4, fun j o u ho hu => pres _ _ _ (hv j o u ho hu)⟩)
  exact ⟨a, b, c, len_setB _ _ _ _, fun d => Nat.le_of_eq (lens_setB _ _ _ _ d).symm⟩

/-- A row finished. -/
theorem SR.freeze (S : SR F H h w) {sz n : Nat} {get : Nat → List C} (hb : getB h d i = .mar sz n get) :
    ∃ F' H', Stp F H h w F' H' (setB h d i (.far sz n get)) w ∧ ∀ a cap, Own H w d i sz n a cap → VR F' w (.slice n get) (.slice a n cap) ∧ ∀ e, e < n → (get e).length = sz := by
  obtain ⟨hd, hi⟩ := getB_in (h := h) (d := d) (i := i) (by rw [hb]; simp)
  have hbl := S.blk d i
  rw [hb] at hbl
  have gB := getB_setB h d i (.far sz n get) hd hi
  rcases hbl with ⟨rfl, hl⟩ | ⟨b, us, t, hl, hh, hnF, hrow⟩
  · obtain ⟨a, b, c⟩ := S.upd (F' := F) (w' := w) (b' := .far sz 0 get) (x := none) hd hi rfl rfl rfl (Nat.le_refl _) (fun _ _ q => q) (fun _ _ _ => rfl) (fun sz n g => by rw [hb]; simp)
      (fun b hb => by cases hb) (fun b hb _ => ⟨rfl, fun o q => q⟩) S.flt (by rw [hb]; exact .inr ⟨get, by rw [gB]; simp, .inl ⟨rfl, hl⟩⟩) (fun pres => trivial)
    exact ⟨F, _, ⟨a, b, c, len_setB _ _ _ _, fun d => Nat.le_of_eq (lens_setB _ _ _ _ d).symm⟩, fun a cap hO => ⟨.slice0, fun e he => absurd he (by omega)⟩⟩
  · have hlt := S.lt _ _ _ hl
    have hF : ∀ o, o < n * sz → addF F b (n * sz) b o := fun o q => .inr ⟨rfl, q⟩
    have hrow' := hrow.mono (F' := addF F b (n * sz)) (w' := w) addF_sub (fun _ _ _ => rfl)
    obtain ⟨a, b2, c⟩ := S.upd (F' := addF F b (n * sz)) (w' := w) (b' := .far sz n get) (x := some b) hd hi rfl rfl rfl (Nat.le_refl _) addF_sub (fun _ _ _ => rfl) (fun sz n g => by rw [hb]; simp)
      (fun b' hb' => by cases hb'; exact ⟨hlt, .inl hl⟩) (fun b' hb' hne => ⟨rfl, fun o q => by rcases q with q | ⟨q, _⟩; exact q; exact absurd (by rw [q]; exact hl) hne⟩)
      (fun b' o q => by rcases q with q | ⟨q, _⟩; exact S.flt b' o q; rw [q]; exact hlt)
      (by rw [hb]; exact .inr ⟨get, by rw [gB]; simp, .inr ⟨b, us, t, hl, hh, hF, hrow', us, t, hh, rfl⟩⟩) (fun pres => trivial)
    refine ⟨_, _, ⟨a, b2, c, len_setB _ _ _ _, fun d => Nat.le_of_eq (lens_setB _ _ _ _ d).symm⟩, fun a cap hO => ⟨?_, hrow.2.2.1⟩⟩
    rcases hO with ⟨rfl, _, _⟩ | ⟨b3, us3, t3, k1, rfl, _, _, k5, _⟩
    · exact .slice0
    · rw [hl] at k1; cases k1
      exact VR.of_row hh hF hrow' k5

/-- Elements written in place. -/
theorem SR.putRow (S : SR F H h w) {sz n : Nat} {get get' : Nat → List C} (hb : getB h d i = .mar sz n get) {us us' : Array Value} {t : TypeId} (hl : loc H d i = some b) (hh : w.heap[b]? = some (.cells us t (0, 0))) (hs : us'.size = us.size)
    (hr : RowC F w us' sz n get') : Stp F H h w F (setL H d i (some b)) (setB h d i (.mar sz n get')) (w.setRow b us') := by
  obtain ⟨hd, hi⟩ := getB_in (h := h) (d := d) (i := i) (by rw [hb]; simp)
  have hbl := S.blk d i
  rw [hb] at hbl
  rcases hbl with ⟨_, hl2⟩ | ⟨b2, us2, t2, q1, q2, q4, q5⟩
  · rw [hl] at hl2; cases hl2
  rw [hl] at q1; cases q1
  have gL := loc_setL H d i (some b) (by rw [S.len]; exact hd) (by rw [S.lens]; exact hi)
  have gB := getB_setB h d i (.mar sz n get') hd hi
  have hself : loc (setL H d i (some b)) d i = some b := by rw [gL]; simp
  have hlt := S.lt _ _ _ hl
  have hcell : ∀ b' o, F b' o → (w.setRow b us').cell? ⟨b', o, none⟩ = w.cell? ⟨b', o, none⟩ := fun b' o q => cell_setRow_other w b us' _ (by intro e; simp at e; subst e; exact q4 o q)
  have hnew := setRow_heap w b us us' t _ hh
  obtain ⟨a, b, c⟩ := S.upd (F' := F) (w' := w.setRow b us') (b' := .mar sz n get') (x := some b) hd hi rfl rfl rfl (by simp) (fun _ _ q => q) hcell (fun sz n g => by rw [hb]; simp)
    (fun b' hb' => by cases hb'; exact ⟨by simpa using hlt, .inl hl⟩)
    (fun b' _ hne => ⟨setRow_other w b b' us' (fun e => hne (by rw [e]; exact hl)), fun o q => q⟩)
    (fun b' o q => by simpa using S.flt b' o q)
    (by
      rw [hb]
      refine .inl ⟨n, get', by rw [gB]; simp, Nat.le_refl _, fun _ => ⟨by rw [hself, hl], fun a cap hO => ?_⟩⟩
      rcases hO with ⟨_, _, k3⟩ | ⟨b3, us3, t3, k1, k2, k3, k4, k5⟩
      · rw [hl] at k3; cases k3
      · rw [hl] at k1; cases k1
        rw [hh] at k3; cases k3
        exact .inr ⟨b, us', t, hself, k2, hnew, hs.trans k4, k5⟩)
    (fun pres => .inr ⟨b, us', t, hself, hnew, q4, hr.mono (fun _ _ q => q) hcell⟩)
  exact ⟨a, b, c, len_setB _ _ _ _, fun d => Nat.le_of_eq (lens_setB _ _ _ _ d).symm⟩

/-- A row grows where it lies. -/
theorem SR.intoA (S : SR F H h w) {sz n n' : Nat} {get get' : Nat → List C} (hb : getB h d i = .arr sz n get) {us us' : Array Value} {t : TypeId} (hl : loc H d i = some b) (hh : w.heap[b]? = some (.cells us t (0, 0))) (hs : us'.size = us.size)
    (hr : RowC F w us' sz n' get') (hn : n ≤ n') (hg : ∀ e, e < n → get' e = get e) (hu : ∀ o, o < n * sz → us'[o]? = us[o]?) : Stp F H h w (addF F b (n' * sz)) (setL H d i (some b)) (setB h d i (.arr sz n' get')) (w.setRow b us') := by
  obtain ⟨hd, hi⟩ := getB_in (h := h) (d := d) (i := i) (by rw [hb]; simp)
  have hbl := S.blk d i
  rw [hb] at hbl
  rcases hbl with ⟨_, hl2⟩ | ⟨b2, us2, t2, q1, q2, q4, q5⟩
  · rw [hl] at hl2; cases hl2
  rw [hl] at q1; cases q1
  have gL := loc_setL H d i (some b) (by rw [S.len]; exact hd) (by rw [S.lens]; exact hi)
  have gB := getB_setB h d i (.arr sz n' get') hd hi
  have hself : loc (setL H d i (some b)) d i = some b := by rw [gL]; simp
  have hlt := S.lt _ _ _ hl
  have hnew := setRow_heap w b us us' t _ hh
  have hcell : ∀ b' o, F b' o → (w.setRow b us').cell? ⟨b', o, none⟩ = w.cell? ⟨b', o, none⟩ := fun b' o q => by
    by_cases e : b' = b
    · subst e
      rw [cell_setRow_same w b' o us us' t _ hh, cell_of_cells hh, hu o ((q4 o).1 q)]
    · exact cell_setRow_other w b us' _ e
  have hle : n * sz ≤ n' * sz := Nat.mul_le_mul_right _ hn
  obtain ⟨a, b, c⟩ := S.upd (F' := addF F b (n' * sz)) (w' := w.setRow b us') (b' := .arr sz n' get') (x := some b) hd hi rfl rfl rfl (by simp) addF_sub hcell (fun sz n g => by rw [hb]; simp)
    (fun b' hb' => by cases hb'; exact ⟨by simpa using hlt, .inl hl⟩)
    (fun b' _ hne => ⟨setRow_other w b b' us' (fun e => hne (by rw [e]; exact hl)), fun o q => by rcases q with q | ⟨q, _⟩; exact q; exact absurd (by rw [q]; exact hl) hne⟩)
    (fun b' o q => by rcases q with q | ⟨q, _⟩; simpa using S.flt b' o q; rw [q]; simpa using hlt)
    (by
      rw [hb]
      refine ⟨n', get', by rw [gB]; simp, hn, hg, fun e a cap hO => ?_⟩
      rcases hO with ⟨_, _, k3⟩ | ⟨b3, us3, t3, k1, k2, k3, k4, k5⟩
      · rw [hl] at k3; cases k3
      · rw [hl] at k1; cases k1
        rw [hh] at k3; cases k3
        exact .inr ⟨b, us', t, hself, k2, hnew, hs.trans k4, k5⟩)
    (fun pres => .inr ⟨b, us', t, hself, hnew, fun o => ⟨fun q => by rcases q with q | ⟨_, q⟩; exact Nat.lt_of_lt_of_le ((q4 o).1 q) hle; exact q, fun q => .inr ⟨rfl, q⟩⟩, hr.mono addF_sub hcell⟩)
  exact ⟨a, b, c, len_setB _ _ _ _, fun d => Nat.le_of_eq (lens_setB _ _ _ _ d).symm⟩
theorem SR.intoM (S : SR F H h w) {sz n n' : Nat} {get get' : Nat → List C} (hb : getB h d i = .mar sz n get) {us us' : Array Value} {t : TypeId} (hl : loc H d i = some b) (hh : w.heap[b]? = some (.cells us t (0, 0))) (hs : us'.size = us.size)
    (hr : RowC F w us' sz n' get') (hn : n ≤ n') : Stp F H h w F (setL H d i (some b)) (setB h d i (.mar sz n' get')) (w.setRow b us') := by
  obtain ⟨hd, hi⟩ := getB_in (h := h) (d := d) (i := i) (by rw [hb]; simp)
  have hbl := S.blk d i
  rw [hb] at hbl
  rcases hbl with ⟨_, hl2⟩ | ⟨b2, us2, t2, q1, q2, q4, q5⟩
  · rw [hl] at hl2; cases hl2
  rw [hl] at q1; cases q1
  have gL := loc_setL H d i (some b) (by rw [S.len]; exact hd) (by rw [S.lens]; exact hi)
  have gB := getB_setB h d i (.mar sz n' get') hd hi
  have hself : loc (setL H d i (some b)) d i = some b := by rw [gL]; simp
  have hlt := S.lt _ _ _ hl
  have hnew := setRow_heap w b us us' t _ hh
  have hcell : ∀ b' o, F b' o → (w.setRow b us').cell? ⟨b', o, none⟩ = w.cell? ⟨b', o, none⟩ := fun b' o q => cell_setRow_other w b us' _ (by intro e; simp at e; subst e; exact q4 o q)
  obtain ⟨a, b, c⟩ := S.upd (F' := F) (w' := w.setRow b us') (b' := .mar sz n' get') (x := some b) hd hi rfl rfl rfl (by simp) (fun _ _ q => q) hcell (fun sz n g => by rw [hb]; simp)
    (fun b' hb' => by cases hb'; exact ⟨by simpa using hlt, .inl hl⟩)
    (fun b' _ hne => ⟨setRow_other w b b' us' (fun e => hne (by rw [e]; exact hl)), fun o q => q⟩)
    (fun b' o q => by simpa using S.flt b' o q)
    (by
      rw [hb]
      refine .inl ⟨n', get', by rw [gB]; simp, hn, fun _ => ⟨by rw [hself, hl], fun a cap hO => ?_⟩⟩
      rcases hO with ⟨_, _, k3⟩ | ⟨b3, us3, t3, k1, k2, k3, k4, k5⟩
      · rw [hl] at k3; cases k3
      · rw [hl] at k1; cases k1
        rw [hh] at k3; cases k3
        exact .inr ⟨b, us', t, hself, k2, hnew, hs.trans k4, k5⟩)
    (fun pres => .inr ⟨b, us', t, hself, hnew, q4, hr.mono (fun _ _ q => q) hcell⟩)
  exact ⟨a, b, c, len_setB _ _ _ _, fun d => Nat.le_of_eq (lens_setB _ _ _ _ d).symm⟩
/-- A row grows into a new block. -/
theorem SR.moveA (S : SR F H h w) {sz n n' : Nat} {get get' : Nat → List C} (hb : getB h d i = .arr sz n get) {us : Array Value} {t : TypeId} (hh : w'.heap = w.heap.push (.cells us t (0, 0))) (hos : w'.os = w.os) (htape : w'.tape = w.tape) (hout : w'.output = w.output)
    (hr : RowC F w us sz n' get') (hn : n < n') (hg : ∀ e, e < n → get' e = get e) : Stp F H h w (addF F w.heap.size (n' * sz)) (setL H d i (some w.heap.size)) (setB h d i (.arr sz n' get')) w' := by
  obtain ⟨hd, hi⟩ := getB_in (h := h) (d := d) (i := i) (by rw [hb]; simp)
  have hold : ∀ b, b < w.heap.size → w'.heap[b]? = w.heap[b]? := fun b hb => by rw [hh, Array.getElem?_push]; rw [if_neg (by omega)]
  have hnew : w'.heap[w.heap.size]? = some (.cells us t (0, 0)) := by rw [hh]; simp
  have hsize : w'.heap.size = w.heap.size + 1 := by rw [hh]; simp
  have hcell : ∀ b o, F b o → w'.cell? ⟨b, o, none⟩ = w.cell? ⟨b, o, none⟩ := fun b o hb => cell_same (hold b (S.flt b o hb))
  have hnF : ∀ o, ¬ F w.heap.size o := fun o q => absurd (S.flt _ _ q) (by omega)
  have gL := loc_setL H d i (some w.heap.size) (by rw [S.len]; exact hd) (by rw [S.lens]; exact hi)
  have gB := getB_setB h d i (.arr sz n' get') hd hi
  have hself : loc (setL H d i (some w.heap.size)) d i = some w.heap.size := by rw [gL]; simp
  obtain ⟨a, b, c⟩ := S.upd (F' := addF F w.heap.size (n' * sz)) (w' := w') (b' := .arr sz n' get') (x := some w.heap.size) hd hi hos htape hout (by omega) addF_sub hcell (fun sz n g => by rw [hb]; simp)
    (fun b hb => by cases hb; exact ⟨by omega, .inr (Nat.le_refl _)⟩)
    (fun b hb _ => ⟨hold b hb, fun o q => by rcases q with q | ⟨q, _⟩; exact q; omega⟩)
    (fun b o q => by rcases q with q | ⟨q, _⟩; have := S.flt b o q; omega; omega)
    (by rw [hb]; exact ⟨n', get', by rw [gB]; simp, Nat.le_of_lt hn, hg, fun e => by omega⟩)
    (fun pres => .inr ⟨_, us, t, hself, hnew, fun o => ⟨fun q => by rcases q with q | ⟨_, q⟩; exact absurd q (hnF o); exact q, fun q => .inr ⟨rfl, q⟩⟩, hr.mono addF_sub hcell⟩)
  exact ⟨a, b, c, len_setB _ _ _ _, fun d => Nat.le_of_eq (lens_setB _ _ _ _ d).symm⟩
theorem SR.moveM (S : SR F H h w) {sz n n' : Nat} {get get' : Nat → List C} (hb : getB h d i = .mar sz n get) {us : Array Value} {t : TypeId} (hh : w'.heap = w.heap.push (.cells us t (0, 0))) (hos : w'.os = w.os) (htape : w'.tape = w.tape) (hout : w'.output = w.output)
    (hr : RowC F w us sz n' get') (hn : n < n') : Stp F H h w F (setL H d i (some w.heap.size)) (setB h d i (.mar sz n' get')) w' := by
  obtain ⟨hd, hi⟩ := getB_in (h := h) (d := d) (i := i) (by rw [hb]; simp)
  have hold : ∀ b, b < w.heap.size → w'.heap[b]? = w.heap[b]? := fun b hb => by rw [hh, Array.getElem?_push]; rw [if_neg (by omega)]
  have hnew : w'.heap[w.heap.size]? = some (.cells us t (0, 0)) := by rw [hh]; simp
  have hsize : w'.heap.size = w.heap.size + 1 := by rw [hh]; simp
  have hcell : ∀ b o, F b o → w'.cell? ⟨b, o, none⟩ = w.cell? ⟨b, o, none⟩ := fun b o hb => cell_same (hold b (S.flt b o hb))
  have hnF : ∀ o, ¬ F w.heap.size o := fun o q => absurd (S.flt _ _ q) (by omega)
  have gL := loc_setL H d i (some w.heap.size) (by rw [S.len]; exact hd) (by rw [S.lens]; exact hi)
  have gB := getB_setB h d i (.mar sz n' get') hd hi
  have hself : loc (setL H d i (some w.heap.size)) d i = some w.heap.size := by rw [gL]; simp
  obtain ⟨a, b, c⟩ := S.upd (F' := F) (w' := w') (b' := .mar sz n' get') (x := some w.heap.size) hd hi hos htape hout (by omega) (fun _ _ q => q) hcell (fun sz n g => by rw [hb]; simp)
    (fun b hb => by cases hb; exact ⟨by omega, .inr (Nat.le_refl _)⟩)
    (fun b hb _ => ⟨hold b hb, fun o q => q⟩)
    (fun b o q => by have := S.flt b o q; omega)
    (by rw [hb]; exact .inl ⟨n', get', by rw [gB]; simp, Nat.le_of_lt hn, fun e => by omega⟩)
    (fun pres => .inr ⟨_, us, t, hself, hnew, hnF, hr.mono (fun _ _ q => q) hcell⟩)
  exact ⟨a, b, c, len_setB _ _ _ _, fun d => Nat.le_of_eq (lens_setB _ _ _ _ d).symm⟩
end
end Go.Ab

/-! ## As7 -/
namespace Go.Ab
open Go.RowKit

section
variable {F : Fz} {H : Hs} {h h' : Heap} {w w' : World} {d i b : Nat} {ts : List O} {a : Act} {P : Program}

theorem VR.slice_congr {n : Nat} {get get' : Nat → List C} {v : Value} (hg : ∀ e, e < n → get e = get' e) (hv : VR F w (.slice n get) v) : VR F w (.slice n get') v := by
  cases hv with
  | slice0 => exact .slice0
  | slice hn hl hz hF hc h1 hv => exact .slice hn hl (fun e he => by rw [← hg e he]; exact hz e he) hF hc h1 (fun e j c u he hc' hu => hv e j c u he (by rw [hg e he]; exact hc') hu)

theorem arrC_sim (S : SR F H h w) {ok : Bool} {n sz cap : Nat} {ad : Option Addr} {v : C} (hr : RowAt F H h w d i sz n ad cap) (hc : arrC ok h d i n = some (v, h')) : ∃ F' H', Stp F H h w F' H' h' w ∧ VR F' w v (.slice ad n cap) := by
  unfold arrC at hc
  unfold RowAt at hr
  split at hc <;> try (cases hc; done)
  · rename_i sz' n' get e
    rw [e] at hr
    obtain ⟨h1, h2, h3, h4, h5⟩ := hr
    split at hc
    · cases hc; exact ⟨F, H, Stp.refl S, h3⟩
    · split at hc <;> cases hc
      exact ⟨F, H, Stp.refl S, h3.slice_congr fun e he => by simp [sSlice, he]⟩
  · rename_i sz' n' get e
    rw [e] at hr
    obtain ⟨h1, h2, h3⟩ := hr
    split at hc <;> cases hc
    rename_i hk
    obtain ⟨_, rfl⟩ := hk
    subst h1
    obtain ⟨F', H', h4, h5⟩ := S.freeze e
    exact ⟨F', H', h4, (h5 ad cap (h3 rfl)).1⟩
  · rename_i sz' n' get e
    rw [e] at hr
    split at hc <;> cases hc
    rename_i hk
    exact ⟨F, H, Stp.refl S, (hr hk).1⟩

theorem ROs.pres {F' : Fz} {H' : Hs} (p : ∀ A o v, RO F H h w A o v → RO F' H' h' w' A o v) {A : Nat → Nat → Prop} {cs : List O} {us : List Value} (hr : ROs F H h w A cs us) : ROs F' H' h' w' A cs us :=
  ⟨hr.1, fun j c u hc hu => p _ _ _ (hr.2 j c u hc hu)⟩
theorem ROs.cons {A : Nat → Nat → Prop} {o : O} {v : Value} {cs : List O} {us : List Value} (hv : RO F H h w A o v) (hr : ROs F H h w A cs us) : ROs F H h w A (o :: cs) (v :: us) :=
  ⟨by simp [hr.1], fun j c u hc hu => by
    cases j with
    | zero => simp at hc hu; subst hc; subst hu; exact hv
    | succ j => simp only [List.getElem?_cons_succ] at hc hu; exact hr.2 j c u hc hu⟩
theorem ROs.nil {A : Nat → Nat → Prop} : ROs F H h w A [] [] := ⟨rfl, fun j c u hc => by simp at hc⟩
theorem ROs.uncons {A : Nat → Nat → Prop} {o : O} {cs : List O} {us : List Value} (hr : ROs F H h w A (o :: cs) us) : ∃ v us', us = v :: us' ∧ RO F H h w A o v ∧ ROs F H h w A cs us' := by
  cases us with
  | nil => have := hr.1; simp at this
  | cons v us' => exact ⟨v, us', rfl, hr.2 0 o v rfl rfl, ⟨by have := hr.1; simpa using this, fun j c u hc hu => hr.2 (j + 1) c u hc hu⟩⟩

theorem restCells_sim {ok : Bool} {sl : PT} {A : Nat → Nat → Prop} : ∀ {cs : List O} {us : List Value} {j : Nat} {l : List O} {F : Fz} {H : Hs} {h h' : Heap}, SR F H h w → ROs F H h w A cs us →
    restCells ok sl j cs h = some (l, h') → ∃ F' H', Stp F H h w F' H' h' w ∧ ROs F' H' h' w A l us := by
  intro cs
  induction cs with
  | nil =>
    intro us j l F H h h' S hr hk
    simp only [restCells, Option.some.injEq, Prod.mk.injEq] at hk
    obtain ⟨rfl, rfl⟩ := hk
    exact ⟨F, H, Stp.refl S, hr⟩
  | cons o cs ih =>
    intro us j l F H h h' S hr hk
    obtain ⟨v, us', rfl, h1, h2⟩ := hr.uncons
    have plain : (∃ l2 h2, restCells ok sl (j + 1) cs h = some (l2, h2) ∧ l = o :: l2 ∧ h' = h2) → ∃ F' H', Stp F H h w F' H' h' w ∧ ROs F' H' h' w A l (v :: us') := by
      rintro ⟨l2, h2', e, rfl, rfl⟩
      obtain ⟨F', H', k1, k2⟩ := ih S h2 e
      exact ⟨F', H', k1, (k2.cons (k1.pres _ _ _ h1))⟩
    cases o with
    | nils =>
      simp only [restCells] at hk
      split at hk <;> try (cases hk; done)
      split at hk <;> try (cases hk; done)
      rename_i z _ _ l2 h2' e
      cases hk
      obtain ⟨ad, rfl⟩ := ro_nils h1
      obtain ⟨F', H', k1, k2⟩ := ih S h2 e
      exact ⟨F', H', k1, k2.cons (.c .slice0)⟩
    | arr dd ii sz n =>
      simp only [restCells] at hk
      split at hk <;> try (cases hk; done)
      rename_i v2 h2' e
      split at hk <;> try (cases hk; done)
      rename_i l2 h3' e2
      cases hk
      obtain ⟨ad, cap, rfl, _, hrow, _⟩ := ro_arr h1
      obtain ⟨F1, H1, k1, k2⟩ := arrC_sim S hrow e
      obtain ⟨F', H', k3, k4⟩ := ih k1.sr (h2.pres k1.pres) e2
      exact ⟨F', H', k1.trans k3, k4.cons (k3.pres _ _ _ (.c k2))⟩
    | _ =>
      simp only [restCells] at hk
      split at hk <;> try (cases hk; done)
      rename_i l2 h2' e
      cases hk
      exact plain ⟨_, _, e, rfl, rfl⟩
theorem restO_sim {ok : Bool} {sl : PT} {A : Nat → Nat → Prop} {o o' : O} {v : Value} (S : SR F H h w) (hr : RO F H h w A o v) (hk : restO ok sl o h = some (o', h')) :
    ∃ F' H', Stp F H h w F' H' h' w ∧ RO F' H' h' w A o' v := by
  cases o with
  | agg cs =>
    simp only [restO] at hk
    split at hk <;> cases hk
    rename_i l e
    obtain ⟨us, rfl, hl, hv⟩ := ro_aggO hr
    obtain ⟨F', H', k1, k2⟩ := restCells_sim S ⟨hl, hv⟩ e
    exact ⟨F', H', k1, mkAgg_ro k2⟩
  | nils =>
    simp only [restO] at hk
    split at hk <;> cases hk
    obtain ⟨ad, rfl⟩ := ro_nils hr
    exact ⟨F, H, Stp.refl S, .c .slice0⟩
  | arr dd ii sz n =>
    simp only [restO] at hk
    split at hk <;> cases hk
    rename_i v2 e
    obtain ⟨ad, cap, rfl, _, hrow, _⟩ := ro_arr hr
    obtain ⟨F1, H1, k1, k2⟩ := arrC_sim S hrow e
    exact ⟨F1, H1, k1, .c k2⟩
  | c _ => simp only [restO, Option.some.injEq, Prod.mk.injEq] at hk; obtain ⟨rfl, rfl⟩ := hk; exact ⟨F, H, Stp.refl S, hr⟩
  | undef => simp only [restO, Option.some.injEq, Prod.mk.injEq] at hk; obtain ⟨rfl, rfl⟩ := hk; exact ⟨F, H, Stp.refl S, hr⟩
  | ref _ _ _ => simp only [restO, Option.some.injEq, Prod.mk.injEq] at hk; obtain ⟨rfl, rfl⟩ := hk; exact ⟨F, H, Stp.refl S, hr⟩
  | eref _ _ _ _ _ => simp only [restO, Option.some.injEq, Prod.mk.injEq] at hk; obtain ⟨rfl, rfl⟩ := hk; exact ⟨F, H, Stp.refl S, hr⟩
  | vsl _ _ _ _ _ => simp only [restO, Option.some.injEq, Prod.mk.injEq] at hk; obtain ⟨rfl, rfl⟩ := hk; exact ⟨F, H, Stp.refl S, hr⟩
  | func _ _ _ => simp only [restO, Option.some.injEq, Prod.mk.injEq] at hk; obtain ⟨rfl, rfl⟩ := hk; exact ⟨F, H, Stp.refl S, hr⟩
  | tuple _ => simp only [restO, Option.some.injEq, Prod.mk.injEq] at hk; obtain ⟨rfl, rfl⟩ := hk; exact ⟨F, H, Stp.refl S, hr⟩
  | yield _ => simp only [restO, Option.some.injEq, Prod.mk.injEq] at hk; obtain ⟨rfl, rfl⟩ := hk; exact ⟨F, H, Stp.refl S, hr⟩
  | mref _ _ => simp only [restO, Option.some.injEq, Prod.mk.injEq] at hk; obtain ⟨rfl, rfl⟩ := hk; exact ⟨F, H, Stp.refl S, hr⟩
theorem content_sim {ok : Bool} {z : List C} {A : Nat → Nat → Prop} {o : O} {v : Value} {n : Nat} {get : Nat → List C} (S : SR F H h w) (hr : RO F H h w A o v) (hk : content ok z h o = some (n, get, h')) :
    ∃ F' H', Stp F H h w F' H' h' w ∧ ∃ ad cap, v = .slice ad n cap ∧ VR F' w (.slice n get) (.slice ad n cap) := by
  unfold content at hk
  split at hk <;> try (cases hk; done)
  · cases hk
    obtain ⟨ad, cap, rfl, _, hv⟩ := ro_slice hr
    exact ⟨F, H, Stp.refl S, _, _, rfl, hv⟩
  · cases hk
    obtain ⟨ad, rfl⟩ := ro_nils hr
    exact ⟨F, H, Stp.refl S, _, _, rfl, .slice0⟩
  · split at hk <;> cases hk
    rename_i e
    obtain ⟨ad, cap, rfl, _, hrow, _⟩ := ro_arr hr
    obtain ⟨F1, H1, k1, k2⟩ := arrC_sim S hrow e
    cases k2 with
    | slice0 => exact ⟨F1, H1, k1, _, _, rfl, .slice0⟩
    | slice hn hl hg hF hc h1 hv => exact ⟨F1, H1, k1, _, _, rfl, .slice hn hl hg hF hc h1 hv⟩

/-! ### Kinds of cells -/
theorem oneC_sim {c : C} {v : Value} (hv : VR F w c v) (ho : oneC c = true) : v.oneCell' = true := by
  cases hv <;> first | rfl | (simp [oneC] at ho)
theorem oneO_sim {A : Nat → Nat → Prop} {o : O} {v : Value} (hv : RO F H h w A o v) (ho : oneO o = true) : v.oneCell' = true := by
  cases hv with
  | c hv => exact oneC_sim hv ho
  | undef u => simp [oneO] at ho
  | agg hl hv => simp [oneO] at ho
  | tuple hl hv => simp [oneO] at ho
  | _ => rfl
theorem ROs.ones {A : Nat → Nat → Prop} {cs : List O} {us : List Value} (hr : ROs F H h w A cs us) (ho : cs.all oneO = true) : ∀ v ∈ us, v.oneCell' = true := by
  intro v hv
  obtain ⟨j, hj, rfl⟩ := List.mem_iff_getElem.1 hv
  have hj' : j < cs.length := by rw [← hr.1]; exact hj
  exact oneO_sim (hr.2 j _ _ (List.getElem?_eq_getElem hj') (List.getElem?_eq_getElem hj)) (List.all_eq_true.1 ho _ (List.getElem_mem hj'))
theorem depthOk_sim {A : Nat → Nat → Prop} {m : Nat} {o : O} {v : Value} (hr : RO F H h w A o v) : ∀ n, depthOk n m o = true → RO F H h w (AOk m) o v := by
  induction hr with
  | c hv => exact fun _ _ => .c hv
  | undef u => exact fun _ _ => .undef u
  | nils a => exact fun _ _ => .nils a
  | ref hA hk hl => exact fun n e => .ref (by cases n <;> simpa [depthOk] using e) hk hl
  | eref hA ha => exact fun n e => .eref (by cases n <;> simpa [depthOk] using e) ha
  | arr hA hs hr => exact fun n e => .arr (by cases n <;> simpa [depthOk] using e) hs hr
  | vsl hA hk hl hn ho => exact fun n e => .vsl (by cases n <;> simpa [depthOk] using e) hk hl hn ho
  | func ha hb hva hvb iha ihb =>
    intro n e
    cases n with
    | zero => simp [depthOk] at e
    | succ n =>
      simp only [depthOk, Bool.and_eq_true, List.all_eq_true] at e
      exact .func ha hb (fun j c u hc hu => iha j c u hc hu n (e.1 c (List.mem_of_getElem? hc))) (fun j c u hc hu => ihb j c u hc hu n (e.2 c (List.mem_of_getElem? hc)))
  | agg hl hv ih =>
    intro n e
    cases n with
    | zero => simp [depthOk] at e
    | succ n =>
      simp only [depthOk, List.all_eq_true] at e
      exact .agg hl (fun j c u hc hu => ih j c u hc hu n (e c (List.mem_of_getElem? hc)))
  | tuple hl hv ih =>
    intro n e
    cases n with
    | zero => simp [depthOk] at e
    | succ n =>
      simp only [depthOk, List.all_eq_true] at e
      exact .tuple hl (fun j c u hc hu => ih j c u hc hu n (e c (List.mem_of_getElem? hc)))
theorem ROs.depth {A : Nat → Nat → Prop} {m n : Nat} {cs : List O} {us : List Value} (hr : ROs F H h w A cs us) (ho : cs.all (depthOk n m) = true) : ROs F H h w (AOk m) cs us :=
  ⟨hr.1, fun j c u hc hu => depthOk_sim (hr.2 j c u hc hu) n (List.all_eq_true.1 ho _ (List.mem_of_getElem? hc))⟩

theorem nilFix_sim {d' : Nat} {dd : Nat} (hd : d' ≤ dd) {us : List Value} : ∀ {sl : PT} {at_ : Nat} {cs cs' : List O} {H : Hs} {h h' : Heap}, SR F H h w → ROs F H h w (AOk dd) cs us → nilFix d' at_ sl cs h = some (cs', h') →
    ∃ H', Stp F H h w F H' h' w ∧ ROs F H' h' w (AOk dd) cs' us := by
  intro sl
  induction sl with
  | nil =>
    intro at_ cs cs' H h h' S hr hk
    simp only [nilFix, Option.some.injEq, Prod.mk.injEq] at hk
    obtain ⟨rfl, rfl⟩ := hk
    exact ⟨H, Stp.refl S, hr⟩
  | cons p r ih =>
    obtain ⟨j, z⟩ := p
    intro at_ cs cs' H h h' S hr hk
    simp only [nilFix] at hk
    split at hk
    · rename_i e
      split at hk <;> try (cases hk; done)
      rename_i hf
      have st := S.newNil hf (b' := .arr z.length 0 fun _ => z) (.inl ⟨_, _, rfl⟩)
      have hr1 := hr.pres st.pres
      obtain ⟨hn, h1, h2⟩ := fresh_getB hf
      have hgb := getB_setB h d' at_ (.arr z.length 0 fun _ => z) h1 h2 d' at_
      have hlo := loc_setL H d' at_ none (by rw [S.len]; exact h1) (by rw [S.lens]; exact h2) d' at_
      simp only [and_self, if_true] at hgb hlo
      have hr2 : ROs F (setL H d' at_ none) (setB h d' at_ (.arr z.length 0 fun _ => z)) w (AOk dd) (cs.set j (.arr d' at_ z.length 0)) us := by
        refine ⟨by simpa using hr1.1, fun j2 c u hc hu => ?_⟩
        rw [List.getElem?_set] at hc
        split at hc
        · rename_i ej
          split at hc <;> cases hc
          subst ej
          have hold := hr1.2 j _ u e hu
          obtain ⟨ad, rfl⟩ := ro_nils hold
          refine .arr hd (fun q => by omega) ?_
          unfold RowAt
          rw [hgb]
          exact ⟨rfl, Nat.le_refl _, .slice0, fun e he => absurd he (by omega), fun _ => .inl ⟨rfl, rfl, hlo⟩⟩
        · exact hr1.2 j2 c u hc hu
      obtain ⟨H', k1, k2⟩ := ih st.sr hr2 hk
      exact ⟨H', st.trans k1, k2⟩
    · exact ih S hr hk
theorem nilFix_noNils {d' : Nat} : ∀ {sl : PT} {at_ : Nat} {cs : List O}, cs.all noNils = true → nilFix d' at_ sl cs h = some (cs, h) := by
  intro sl
  induction sl with
  | nil => intro at_ cs hn; rfl
  | cons p r ih =>
    obtain ⟨j, z⟩ := p
    intro at_ cs hn
    simp only [nilFix]
    split
    · rename_i e
      have := List.all_eq_true.1 hn _ (List.mem_of_getElem? e)
      simp [noNils] at this
    · exact ih hn
end
end Go.Ab

/-! ## As8 -/
namespace Go.Ab
open Go.RowKit

section
variable {F : Fz} {H : Hs} {h h' : Heap} {w w' : World} {d i b : Nat} {ts : List O} {a : Act} {P : Program}

theorem RO.monoA {A A' : Nat → Nat → Prop} (hA : ∀ d i, A d i → A' d i) {o : O} {v : Value} (hr : RO F H h w A o v) : RO F H h w A' o v := by
  induction hr with
  | c hv => exact .c hv
  | undef u => exact .undef u
  | nils a => exact .nils a
  | ref q hk hl => exact .ref (hA _ _ q) hk hl
  | eref q ha => exact .eref (hA _ _ q) ha
  | arr q hs hr => exact .arr (hA _ _ q) hs hr
  | vsl q hk hl hn ho => exact .vsl (hA _ _ q) hk hl hn ho
  | func ha hb hva hvb iha ihb => exact .func ha hb iha ihb
  | agg hl hv ih => exact .agg hl ih
  | tuple hl hv ih => exact .tuple hl ih
theorem ROs.monoA {A A' : Nat → Nat → Prop} (hA : ∀ d i, A d i → A' d i) {cs : List O} {us : List Value} (hr : ROs F H h w A cs us) : ROs F H h w A' cs us := ⟨hr.1, fun j c u hc hu => (hr.2 j c u hc hu).monoA hA⟩

theorem loadVar_sim {A : Nat → Nat → Prop} {t : TypeId} {n : Option Nat} (hp : PartOf P t n) {b off : Nat} {xs : List O} {us : List Value} (hr : ROs F H h w A xs us) (hl : xs.length = n.getD 1)
    (hc : ∀ j u, us[j]? = some u → w.cell? ⟨b, off + j, none⟩ = some u) : ∃ v, (Instr.loadAt t (.pointer (some ⟨b, off, none⟩))).run P w = .ok v w ∧ RO F H h w A (ofCells n xs) v := by
  cases hp with
  | @cell td ht hg =>
    have hlu : us.length = 1 := by rw [hr.1, hl]; rfl
    obtain ⟨u, rfl⟩ := List.length_eq_one_iff.1 hlu
    obtain ⟨x, rfl⟩ : ∃ x, xs = [x] := List.length_eq_one_iff.1 hl
    refine ⟨u, ?_, by simpa [ofCells] using hr.2 0 x u rfl rfl⟩
    have := hc 0 u rfl
    simp only [Nat.add_zero] at this
    have hagg : (isAgg t).run P w = .ok false w := by
      unfold isAgg
      rw [Sem.run_bind, run_underlying ht]
      cases td <;> simp_all
    simp [Instr.loadAt, Instr.sureAddr, loadVar, hagg, this]
  | @agg td i ht hg hi =>
    refine ⟨_, run_loadAt_mid w b off t us td hc ht (by cases td <;> simp_all) (by simp [hi]; rw [hr.1, hl]; rfl), ?_⟩
    simpa [ofCells] using mkAgg_ro hr

theorem imm_load {A : Nat → Nat → Prop} {t : TypeId} {n : Option Nat} (hp : PartOf P t n) {cs : List C} {ad : Addr} (hv : VR F w (.imm cs) (.pointer (some ad))) (hl : n.getD 1 ≤ cs.length) :
    ∃ v, (Instr.loadAt t (.pointer (some ad))).run P w = .ok v w ∧ RO F H h w A (ofCellsC n (cs.take (n.getD 1))) v := by
  cases hv with
  | @imm _ us b off hl2 hF hc hv =>
    have hr : ROs F H h w A (cs.map O.c) us := ROs.of_c hl2 hv
    have hr2 := hr.take (n.getD 1)
    obtain ⟨v, h1, h2⟩ := loadVar_sim hp (b := b) (off := off) hr2 (by simp; omega) (fun j u hu => by
      rw [List.getElem?_take] at hu
      split at hu
      · exact hc j u hu
      · cases hu)
    refine ⟨v, h1, ?_⟩
    rwa [← List.map_take, ofCells_map] at h2

theorem load_sim {α : Type} {s : St} {k : O → St → Option α} {r : α} {t : TypeId} {n : Option Nat} (hp : PartOf P t n) {o : O} {v : Value} (S : SR F H s.fr w) (hr : RO F H s.fr w (AOk d) o v) (hk : loadAt s k n o = some r) :
    ∃ o' v', k o' s = some r ∧ (Instr.loadAt t v).run P w = .ok v' w ∧ RO F H s.fr w (AOk d) o' v' := by
  unfold loadAt at hk
  split at hk <;> try (cases hk; done)
  · rename_i cs
    obtain ⟨b, off, rfl, hv⟩ := ro_imm hr
    split at hk <;> try (cases hk; done)
    rename_i hl
    obtain ⟨v', h1, h2⟩ := imm_load (H := H) (h := s.fr) (A := AOk d) hp hv hl
    exact ⟨_, v', hk, h1, h2⟩
  · rename_i dd i off
    obtain ⟨b, rfl, hA, hk2, hl⟩ := ro_ref hr
    split at hk <;> try (cases hk; done)
    rename_i cs e
    split at hk <;> try (cases hk; done)
    rename_i hle
    have hb := S.blk dd i
    rw [e] at hb
    obtain ⟨b2, us, t2, q1, q2, q3, q4, q5⟩ := hb
    rw [hl] at q1; cases q1
    have hrs : ROs F H s.fr w (AOk dd) cs (us.toList.take cs.length) := ⟨by simp; omega, fun j c u hc hu => by
      rw [List.getElem?_take] at hu
      split at hu
      · exact q5 j c u hc (by simpa using hu)
      · cases hu⟩
    have hA' : dd ≤ d := hA
    obtain ⟨v', h1, h2⟩ := loadVar_sim hp (b := b) (off := off) (((hrs.drop off).take (n.getD 1)).monoA (A' := AOk d) (fun x y q => Nat.le_trans q hA')) (by simp; omega) (fun j u hu => by
      rw [List.getElem?_take] at hu
      split at hu
      · rw [List.getElem?_drop, List.getElem?_take] at hu
        split at hu
        · rw [cell_of_cells q2]; simpa using hu
        · cases hu
      · cases hu)
    exact ⟨_, v', hk, h1, h2⟩
  · rename_i dd i m e off
    obtain ⟨ad, rfl, hA, hE⟩ := ro_eref hr
    unfold ElemAt at hE
    split at hk <;> try (cases hk; done)
    · rename_i sz m' get eb
      rw [eb] at hE
      split at hk <;> try (cases hk; done)
      rename_i hc
      obtain ⟨v', h1, h2⟩ := imm_load (H := H) (h := s.fr) (A := AOk d) hp hE.2.2 (by simp; omega)
      exact ⟨_, v', hk, h1, h2⟩
    · rename_i sz m' get eb
      rw [eb] at hE
      split at hk <;> try (cases hk; done)
      rename_i hc
      obtain ⟨hc1, hc2, hc3⟩ := hc
      obtain ⟨he, b, hl, rfl⟩ := hE.2 hc1
      have hb := S.blk dd i
      rw [eb] at hb
      rcases hb with ⟨h0, _⟩ | ⟨b2, us, t2, q1, q2, q4, q5⟩
      · omega
      · rw [hl] at q1; cases q1
        have hlen := q5.2.2.1 e (by omega)
        have hle : e * sz + sz ≤ m' * sz := by have := Nat.mul_le_mul_right sz (show e + 1 ≤ m' by omega); rw [Nat.succ_mul] at this; exact this
        have hus := q5.1
        have hr2 : ROs F H s.fr w (AOk d) ((((get e).drop off).take (n.getD 1)).map O.c) ((us.toList.drop (e * sz + off)).take (n.getD 1)) := by
          refine ROs.of_c (by simp; omega) fun j c u hc' hu => ?_
          rw [List.getElem?_take] at hc' hu
          split at hc'
          · rename_i hj
            rw [if_pos hj] at hu
            rw [List.getElem?_drop] at hc' hu
            exact (q5.2.2.2 e (off + j) c u (by omega) hc' (by rw [← Nat.add_assoc]; simpa using hu)).1
          · cases hc'
        obtain ⟨v', h1, h2⟩ := loadVar_sim hp (b := b) (off := e * sz + off) hr2 (by simp; omega) (fun j u hu => by
          rw [List.getElem?_take] at hu
          split at hu
          · rw [List.getElem?_drop] at hu
            rw [cell_of_cells q2]; simpa using hu
          · cases hu)
        rw [ofCells_map] at h2
        exact ⟨_, v', hk, h1, h2⟩
    · rename_i sz m' get eb
      rw [eb] at hE
      split at hk <;> try (cases hk; done)
      rename_i hc
      obtain ⟨v', h1, h2⟩ := imm_load (H := H) (h := s.fr) (A := AOk d) hp (hE hc.1).2 (by simp; omega)
      exact ⟨_, v', hk, h1, h2⟩

/-- Cells spliced into a row. -/
theorem splice_get {α : Type} {l m : List α} {off n : Nat} (hm : m.length = n) (hl : off + n ≤ l.length) (j : Nat) :
    (l.take off ++ m ++ l.drop (off + n))[j]? = if j < off then l[j]? else if j < off + n then m[j - off]? else l[j]? := by
  by_cases h1 : j < off
  · rw [if_pos h1, List.append_assoc, List.getElem?_append_left (by simp; omega), List.getElem?_take, if_pos h1]
  · rw [if_neg h1]
    by_cases h2 : j < off + n
    · rw [if_pos h2, List.getElem?_append_left (by simp; omega), List.getElem?_append_right (by simp; omega)]
      congr 1
      simp
      omega
    · rw [if_neg h2, List.getElem?_append_right (by simp; omega), List.getElem?_drop]
      congr 1
      simp
      omega
theorem splice_len {α : Type} {l m : List α} {off n : Nat} (hm : m.length = n) (hl : off + n ≤ l.length) : (l.take off ++ m ++ l.drop (off + n)).length = l.length := by
  simp; omega

theorem run_storeAt_row {t : TypeId} {inf : TypeInfo} {b off : Nat} {us : Array Value} {ty : TypeId} {v : Value} (hi : P.info? t = some inf) (hh : w.heap[b]? = some (.cells us ty (0, 0))) (hs : v.cells.size = inf.size) (hle : off + inf.size ≤ us.size)
    (h1 : ∀ u ∈ v.cells.toList, u.oneCell' = true) : (Instr.storeAt t (.pointer (some ⟨b, off, none⟩)) v).run P w = .ok () (w.setRow b (us.toList.take off ++ v.cells.toList ++ us.toList.drop (off + inf.size)).toArray) := by
  have := run_storeCells_at P b off ty v.cells.toList 0 us w hh (by simp; omega) h1
  simp only [Nat.add_zero, Array.length_toList, hs] at this
  simp [Instr.storeAt, Instr.sureAddr, storeVar, sizeOf, typeInfo, hi, hs, this]

theorem store_sim {α : Type} {base : Nat} {g : G} {s : St} {k : O → St → Option α} {r : α} {t : TypeId} {inf : TypeInfo} (hi : P.info? t = some inf) {sl : PT} {o o2 : O} {v v2 : Value} (S : SR F H s.fr w) (hr : RO F H s.fr w (AOk d) o v) (hr2 : RO F H s.fr w (AOk d) o2 v2)
    (hnu : o2 ≠ .undef ∨ inf.size = 0 ∨ True) (hk : storeAt d base g s k inf.size sl o2 o = some r) :
    ∃ s' F' H' w', k .undef s' = some r ∧ s'.lp = s.lp ∧ Stp F H s.fr w F' H' s'.fr w' ∧ (Instr.storeAt t v v2).run P w = .ok () w' := by
  unfold storeAt at hk
  split at hk <;> try (cases hk; done)
  · rename_i dd i off
    obtain ⟨b, rfl, hA, hk2, hl⟩ := ro_ref hr
    split at hk <;> try (cases hk; done)
    rename_i cs e
    split at hk <;> try (cases hk; done)
    rename_i hc
    obtain ⟨hc2, hc3, hc4, hc5, hc6⟩ := hc
    split at hk <;> try (cases hk; done)
    rename_i l h' e2
    have hb := S.blk dd i
    rw [e] at hb
    obtain ⟨b2, us, t2, q1, q2, q3, q4, q5⟩ := hb
    rw [hl] at q1; cases q1
    have ho2 : o2 ≠ .undef := by
      intro q; subst q; simp [O.cells, oneO] at hc4
    have hcl := hr2.cells ho2
    have hones := hcl.ones hc4
    have hdep := hcl.depth hc5
    have hsz : v2.cells.size = inf.size := by rw [← Array.length_toList, hcl.1, hc2]
    obtain ⟨H1, k1, k2⟩ : ∃ H1, Stp F H s.fr w F H1 h' w ∧ ROs F H1 h' w (AOk dd) l v2.cells.toList := by
      by_cases hdd : d ≤ dd
      · exact nilFix_sim hdd S hdep e2
      · rw [nilFix_noNils (hc6.resolve_left hdd)] at e2
        cases e2
        exact ⟨H, Stp.refl S, hdep⟩
    obtain ⟨b3, e3, _, hv3, hl3⟩ := ro_ref (k1.pres _ _ _ hr)
    cases e3
    cases e4 : getB h' dd i <;> rw [e4] at hv3 <;> try (simp [isVars] at hv3)
    rename_i cs4
    have st := run_storeAt_row (P := P) (t := t) (v := v2) (off := off) hi q2 hsz (by omega) hones
    have hpl : (us.toList.take off ++ v2.cells.toList ++ us.toList.drop (off + inf.size)).length = us.size := by rw [splice_len (by simpa using hsz) (by simp; omega)]; simp
    have hcl2 : (cs.take off ++ l ++ cs.drop (off + inf.size)).length = cs.length := splice_len (by rw [← k2.1]; simpa using hsz) hc3
    have hll : l.length = inf.size := by rw [← k2.1]; simpa using hsz
    have pt := k1.sr.put e4 hl3 q2 (us' := (us.toList.take off ++ v2.cells.toList ++ us.toList.drop (off + inf.size)).toArray) (cs' := cs.take off ++ l ++ cs.drop (off + inf.size)) (by simpa using hpl) (by rw [hcl2, List.size_toArray, hpl]; exact q3) (fun j o u ho hu => by
      rw [splice_get hll hc3] at ho
      rw [List.getElem?_toArray, splice_get (by simpa using hsz) (by simp; omega)] at hu
      split at ho
      · rename_i hj; rw [if_pos hj] at hu; exact k1.pres _ _ _ (q5 j o u ho (by simpa using hu))
      · rename_i hj; rw [if_neg hj] at hu
        split at ho
        · rename_i hj2; rw [if_pos hj2] at hu; exact k2.2 _ o u ho hu
        · rename_i hj2; rw [if_neg hj2] at hu; exact k1.pres _ _ _ (q5 j o u ho (by simpa using hu)))
    exact ⟨_, F, _, _, hk, rfl, k1.trans pt, st⟩
  · rename_i dd i m e off
    obtain ⟨ad, rfl, hA, hE⟩ := ro_eref hr
    split at hk <;> try (cases hk; done)
    split at hk <;> try (cases hk; done)
    rename_i l h' e2
    split at hk <;> try (cases hk; done)
    rename_i l2 e3
    split at hk <;> try (cases hk; done)
    rename_i sz m' get e4
    split at hk <;> try (cases hk; done)
    rename_i hc
    obtain ⟨hc1, hc2, hc3, hc4, hc5⟩ := hc
    have := allC_eq e3
    subst this
    by_cases ho2 : o2 = .undef
    · subst ho2
      simp only [O.cells, restCells] at e2
      simp at e2
      cases l2 with
      | nil => simp at e2
      | cons x y => simp at e2
    have hcl := hr2.cells ho2
    obtain ⟨F1, H1, k1, k2⟩ := restCells_sim S hcl e2
    have hsz : v2.cells.size = inf.size := by rw [← Array.length_toList, k2.1, List.length_map, hc3]
    obtain ⟨ad', e5, _, hE1⟩ := ro_eref (k1.pres _ _ _ hr)
    cases e5
    unfold ElemAt at hE1
    rw [e4] at hE1
    obtain ⟨_, b, hl, rfl⟩ := hE1.2 hc1
    have hb := k1.sr.blk dd i
    rw [e4] at hb
    rcases hb with ⟨h0, _⟩ | ⟨b2, us, t2, q1, q2, q4, q5⟩
    · omega
    rw [hl] at q1; cases q1
    have hones : ∀ u ∈ v2.cells.toList, u.oneCell' = true := k2.ones (by rw [List.all_eq_true] at hc5 ⊢; intro x hx; obtain ⟨y, hy, rfl⟩ := List.mem_map.1 hx; exact hc5 y hy)
    have hlen := q5.2.2.1 e (by omega)
    have hle : e * sz + sz ≤ m' * sz := by have := Nat.mul_le_mul_right sz (show e + 1 ≤ m' by omega); rw [Nat.succ_mul] at this; exact this
    have hus := q5.1
    have st := run_storeAt_row (P := P) (t := t) (v := v2) (off := e * sz + off) hi q2 hsz (by omega) hones
    have hpl : (us.toList.take (e * sz + off) ++ v2.cells.toList ++ us.toList.drop (e * sz + off + inf.size)).length = us.size := by rw [splice_len (by simpa using hsz) (by simp; omega)]; simp
    have pt := k1.sr.putRow e4 hl q2 (us' := (us.toList.take (e * sz + off) ++ v2.cells.toList ++ us.toList.drop (e * sz + off + inf.size)).toArray) (get' := sSet get e ((get e).take off ++ l2 ++ (get e).drop (off + inf.size))) (by simpa using hpl) (by
      refine ⟨by rw [List.size_toArray, hpl]; exact hus, q5.2.1, fun e' he' => ?_, fun e' j c u he' hc' hu => ?_⟩
      · unfold sSet
        split
        · rw [splice_len hc3 hc4]; exact hlen
        · exact q5.2.2.1 e' he'
      · have hlen' := q5.2.2.1 e' he'
        rw [List.getElem?_toArray, splice_get (by simpa using hsz) (by simp; omega)] at hu
        unfold sSet at hc'
        by_cases ee : e' = e
        · subst ee
          rw [if_pos rfl, splice_get hc3 hc4] at hc'
          by_cases j1 : j < off
          · rw [if_pos j1] at hc'
            rw [if_pos (by omega)] at hu
            exact q5.2.2.2 e' j c u he' hc' (by simpa using hu)
          · rw [if_neg j1] at hc'
            rw [if_neg (by omega)] at hu
            by_cases j2 : j < off + inf.size
            · rw [if_pos j2] at hc'
              rw [if_pos (by omega), show e' * sz + j - (e' * sz + off) = j - off by omega] at hu
              have := k2.2 (j - off) (.c c) u (by simp [hc']) hu
              cases this with
              | c hv => exact ⟨hv, hones u (List.mem_of_getElem? hu)⟩
            · rw [if_neg j2] at hc'
              rw [if_neg (by omega)] at hu
              exact q5.2.2.2 e' j c u he' hc' (by simpa using hu)
        · rw [if_neg ee] at hc'
          have hj : j < sz := by rw [← hlen']; exact (List.getElem?_eq_some_iff.1 hc').1
          have hne : ¬ (e * sz + off ≤ e' * sz + j ∧ e' * sz + j < e * sz + off + inf.size) := by
            rintro ⟨g1, g2⟩
            rcases Nat.lt_or_gt_of_ne ee with q | q
            · have := Nat.mul_le_mul_right sz (show e' + 1 ≤ e by omega); rw [Nat.succ_mul] at this; omega
            · have := Nat.mul_le_mul_right sz (show e + 1 ≤ e' by omega); rw [Nat.succ_mul] at this; omega
          have hu' : us.toList[e' * sz + j]? = some u := by
            split at hu
            · exact hu
            · split at hu
              · exact absurd ⟨by omega, by omega⟩ hne
              · exact hu
          exact q5.2.2.2 e' j c u he' hc' (by simpa using hu'))
    exact ⟨_, F1, _, _, hk, rfl, k1.trans pt, st⟩
end
end Go.Ab

/-! ## As9 -/
namespace Go.Ab
open Go.RowKit

section
variable {F : Fz} {H : Hs} {h h' : Heap} {w w' : World} {d i b : Nat} {ts : List O} {a : Act} {P : Program}

/-! ### Rows put together -/
/-- The elements of a row, as a list of cells. -/
def RowL (F : Fz) (w : World) (sz n : Nat) (get : Nat → List C) (us : List Value) : Prop :=
  us.length = n * sz ∧ (∀ u ∈ us, u.oneCell' = true) ∧ (∀ e, e < n → (get e).length = sz) ∧ ∀ (e j : Nat) (c : C) (u : Value), e < n → (get e)[j]? = some c → us[e * sz + j]? = some u → VR F w c u
theorem RowL.zero {sz : Nat} {get : Nat → List C} : RowL F w sz 0 get [] := ⟨by simp, fun u hu => by simp at hu, fun e he => absurd he (by omega), fun e j c u he => absurd he (by omega)⟩
theorem RowC.list {us : Array Value} {sz n : Nat} {get : Nat → List C} (hr : RowC F w us sz n get) : RowL F w sz n get (us.toList.take (n * sz)) := by
  obtain ⟨h1, h2, h3, h4⟩ := hr
  refine ⟨by simp; omega, fun u hu => ?_, h3, fun e j c u he hc hu => ?_⟩
  · obtain ⟨j, hj, rfl⟩ := List.mem_iff_getElem.1 hu
    have hj' : j < n * sz := by simp at hj; omega
    have he : j / sz < n := Nat.div_lt_of_lt_mul (by rw [Nat.mul_comm]; exact hj')
    have hlen := h3 _ he
    have hm : j % sz < sz := Nat.mod_lt _ h2
    have hj2 : j / sz * sz + j % sz = j := by rw [Nat.mul_comm]; exact Nat.div_add_mod j sz
    have hc : (get (j / sz))[j % sz]? = some ((get (j / sz))[j % sz]'(by omega)) := List.getElem?_eq_getElem _
    refine (h4 (j / sz) (j % sz) _ _ he hc ?_).2
    rw [hj2]
    have hj3 : j < us.size := by omega
    simp [hj3]
  · rw [List.getElem?_take] at hu
    split at hu
    · exact (h4 e j c u he hc (by simpa using hu)).1
    · cases hu
theorem RowL.app {sz n m : Nat} {get get' : Nat → List C} {us vs rest : List Value} (h0 : 0 < sz) (h1 : RowL F w sz n get us) (h2 : RowL F w sz m get' vs) : RowC F w (us ++ vs ++ rest).toArray sz (n + m) (sAppend n get get') := by
  obtain ⟨a1, a2, a3, a4⟩ := h1
  obtain ⟨b1, b2, b3, b4⟩ := h2
  refine ⟨by simp [a1, b1, Nat.add_mul], h0, fun e he => ?_, fun e j c u he hc hu => ?_⟩
  · unfold sAppend
    split
    · rename_i q; exact a3 e q
    · exact b3 _ (by omega)
  · unfold sAppend at hc
    rw [List.getElem?_toArray, List.append_assoc] at hu
    split at hc
    · rename_i q
      have hlen := a3 e q
      have hj : j < sz := by rw [← hlen]; exact (List.getElem?_eq_some_iff.1 hc).1
      have hle : e * sz + sz ≤ n * sz := by have := Nat.mul_le_mul_right sz (show e + 1 ≤ n by omega); rw [Nat.succ_mul] at this; exact this
      rw [List.getElem?_append_left (by omega)] at hu
      exact ⟨a4 e j c u q hc hu, a2 u (List.mem_of_getElem? hu)⟩
    · rename_i q
      have hlen := b3 (e - n) (by omega)
      have hj : j < sz := by rw [← hlen]; exact (List.getElem?_eq_some_iff.1 hc).1
      have hle : (e - n) * sz + sz ≤ m * sz := by have := Nat.mul_le_mul_right sz (show (e - n) + 1 ≤ m by omega); rw [Nat.succ_mul] at this; exact this
      have he2 : e * sz = n * sz + (e - n) * sz := by rw [← Nat.add_mul]; congr 1; omega
      rw [List.getElem?_append_right (by omega), List.getElem?_append_left (by omega), show e * sz + j - us.length = (e - n) * sz + j by omega] at hu
      exact ⟨b4 (e - n) j c u (by omega) hc hu, b2 u (List.mem_of_getElem? hu)⟩
theorem RowL.rowC {sz n : Nat} {get : Nat → List C} {us rest : List Value} (h0 : 0 < sz) (h1 : RowL F w sz n get us) : RowC F w (us ++ rest).toArray sz n get := by
  obtain ⟨a1, a2, a3, a4⟩ := h1
  refine ⟨by simp [a1], h0, a3, fun e j c u he hc hu => ?_⟩
  have hlen := a3 e he
  have hj : j < sz := by rw [← hlen]; exact (List.getElem?_eq_some_iff.1 hc).1
  have hle : e * sz + sz ≤ n * sz := by have := Nat.mul_le_mul_right sz (show e + 1 ≤ n by omega); rw [Nat.succ_mul] at this; exact this
  rw [List.getElem?_toArray, List.getElem?_append_left (by omega)] at hu
  exact ⟨a4 e j c u he hc hu, a2 u (List.mem_of_getElem? hu)⟩
theorem RowL.mono {F' : Fz} {sz n : Nat} {get : Nat → List C} {us : List Value} (hF : ∀ b o, F b o → F' b o) (hw : ∀ b o, F b o → w'.cell? ⟨b, o, none⟩ = w.cell? ⟨b, o, none⟩) (hr : RowL F w sz n get us) : RowL F' w' sz n get us :=
  ⟨hr.1, hr.2.1, hr.2.2.1, fun e j c u he hc hu => (hr.2.2.2 e j c u he hc hu).mono hF hw⟩

/-- What a slice told by content holds in the model. -/
theorem content_cells {size m xc : Nat} {get : Nat → List C} {xa : Option Addr} (hv : VR F w (.slice m get) (.slice xa m xc)) (hz : (get 0).length = size ∨ m = 0) :
    ∃ news, RowL F w size m get news ∧ ∀ w2 : World, w2.heap = w.heap → (Builtin.firstCells size m (.slice xa m xc)).run P w2 = .ok news.toArray w2 := by
  cases hv with
  | slice0 =>
    refine ⟨[], RowL.zero, fun w2 _ => ?_⟩
    cases xa <;> simp [Builtin.firstCells, loadCells, loadCellsFrom]
  | @slice _ us b off _ _ sz hn hl hg hF hc h1 hv =>
    by_cases hm : m = 0
    · subst hm
      refine ⟨[], RowL.zero, fun w2 _ => ?_⟩
      simp [Builtin.firstCells, loadCells, loadCellsFrom]
    · have hs : sz = size := by rw [← hz.resolve_right hm, hg 0 (by omega)]
      subst hs
      refine ⟨us, ⟨hl, fun u hu => ?_, hg, hv⟩, fun w2 hw2 => ?_⟩
      · obtain ⟨j, hj, rfl⟩ := List.mem_iff_getElem.1 hu
        exact h1 j _ (List.getElem?_eq_getElem hj)
      · refine run_firstCells_some (P := P) w2 sz m _ m xc us hl (fun j v hv => ?_)
        rw [addr_add]
        exact (cell_same (w := w) (w' := w2) (by rw [hw2])).trans (hc j v hv)

/-! ### append in the model -/
variable {t t2 ty e e2 : TypeId} {inf : TypeInfo} {z : Value}
theorem run_app_zero (ht : P.underlying t = some (.slice e)) (ht2 : P.underlying t2 = some (.slice e2)) (hi : P.info? e = some inf) {sa xa : Option Addr} {xc : Nat} (hf : (Builtin.firstCells inf.size 0 (.slice xa 0 xc)).run P w = .ok #[] w) :
    (Builtin.append_ #[t, t2] ty #[.slice sa 0 0, .slice xa 0 xc]).run P w = .ok (.slice sa 0 0) w := by
  cases sa <;> simp [Builtin.append_, run_underlying ht, run_underlying ht2, sizeOf, typeInfo, hi, Builtin.lenOf, hf, storeCells]
theorem run_app_room (ht : P.underlying t = some (.slice e)) (ht2 : P.underlying t2 = some (.slice e2)) (hi : P.info? e = some inf) {g n cap m xc : Nat} {xa : Option Addr} {news : List Value} {cur : Array Value} {te : TypeId} (hg : w.heap[g]? = some (.cells cur te (0, 0)))
    (hf : (Builtin.firstCells inf.size m (.slice xa m xc)).run P w = .ok news.toArray w) (hl : news.length = m * inf.size) (h1 : ∀ v ∈ news, v.oneCell' = true) (hroom : n + m ≤ cap) (hfit : n * inf.size + news.length ≤ cur.size) :
    (Builtin.append_ #[t, t2] ty #[.slice (some ⟨g, 0, none⟩) n cap, .slice xa m xc]).run P w =
      .ok (.slice (some ⟨g, 0, none⟩) (n + m) cap) (w.setRow g (cur.toList.take (n * inf.size) ++ news ++ cur.toList.drop (n * inf.size + news.length)).toArray) := by
  have hst := run_storeCells_at P g (n * inf.size) te news 0 cur w hg (by simpa using hfit) h1
  simp only [Nat.add_zero] at hst
  simp [Builtin.append_, run_underlying ht, run_underlying ht2, sizeOf, typeInfo, hi, Builtin.lenOf, hroom, hf, addr_add, hst]
theorem run_app_grow (ht : P.underlying t = some (.slice e)) (ht2 : P.underlying t2 = some (.slice e2)) (hi : P.info? e = some inf) (hz : inf.zero = some z) {s : Value} {sa xa : Option Addr} {n cap m xc : Nat} {olds news : List Value}
    (hs : s = .slice sa n cap) (hfo : ∀ w2 : World, w2.heap = w.heap → (Builtin.firstCells inf.size n s).run P w2 = .ok olds.toArray w2)
    (hf : ∀ w2 : World, w2.heap = w.heap → (Builtin.firstCells inf.size m (.slice xa m xc)).run P w2 = .ok news.toArray w2)
    (hg : cap < n + m) (h63 : ((n + m : Nat) : Int) ≤ 9223372036854775807) (hfit : Builtin.nextslicecap (n + m) cap * inf.bytes ≤ 281474976710656) :
    (Builtin.append_ #[t, t2] ty #[s, .slice xa m xc]).run P w =
      .ok (.slice (some ⟨w.heap.size, 0, none⟩) (n + m) (grownCap w (n + m) cap e)) (w.drew.alloc (.cells (olds.toArray ++ news.toArray ++ Builtin.zeroCells z.cells (grownCap w (n + m) cap e - (n + m))) e)) := by
  have hn : ¬ (n + m ≤ cap) := by omega
  have h63' : ¬ (9223372036854775807 < ((n : Int) + (m : Int))) := by omega
  have h48' : ¬ (281474976710656 < Builtin.nextslicecap (n + m) cap * inf.bytes) := by omega
  have k1 := hfo w.drew rfl
  have k2 := hf w.drew rfl
  subst hs
  simp [Builtin.append_, run_underlying ht, run_underlying ht2, sizeOf, typeInfo, zeroValue, hi, hz, Builtin.lenOf, hn, h63', h48', Question.forced, k1, k2, newRow, grownCap]
  congr 2
  rw [← Array.append_assoc]
  congr 1
  simp

theorem Own.firstCells {dd sz n cap : Nat} {ad : Option Addr} {get : Nat → List C} {us : List Value} (hO : Own H w dd i sz n ad cap) (hus : (∃ b cur te, loc H dd i = some b ∧ w.heap[b]? = some (.cells cur te (0, 0)) ∧ n * sz ≤ cur.size ∧ us = cur.toList.take (n * sz)) ∨ (n = 0 ∧ loc H dd i = none ∧ us = [])) :
    ∀ w2 : World, w2.heap = w.heap → (Builtin.firstCells sz n (.slice ad n cap)).run P w2 = .ok us.toArray w2 := by
  intro w2 hw2
  rcases hO with ⟨rfl, rfl, h3⟩ | ⟨b, us2, t2, h1, rfl, h3, h4, h5, h6⟩
  · have : us = [] := by
      rcases hus with ⟨_, _, _, q, _⟩ | ⟨_, _, q⟩
      · rw [h3] at q; cases q
      · exact q
    subst this
    cases ad <;> simp [Builtin.firstCells, loadCells, loadCellsFrom]
  · rcases hus with ⟨b2, cur, te, q1, q2, q3, rfl⟩ | ⟨_, q, _⟩
    · rw [h1] at q1; cases q1
      rw [h3] at q2; cases q2
      refine run_firstCells_some (P := P) w2 sz n _ n cap _ (by simp; omega) (fun j v hv => ?_)
      rw [addr_add, Nat.zero_add]
      refine (cell_same (w := w) (w' := w2) (by rw [hw2])).trans ((cell_of_cells h3 j).trans ?_)
      rw [List.getElem?_take] at hv
      split at hv
      · simpa using hv
      · cases hv
    · rw [h1] at q; cases q

/-- An empty row stays empty. -/
theorem SR.nil0A (S : SR F H h w) {sz : Nat} {get get' : Nat → List C} (hb : getB h d i = .arr sz 0 get) (hl : loc H d i = none) : Stp F H h w F (setL H d i none) (setB h d i (.arr sz 0 get')) w := by
  obtain ⟨hd, hi⟩ := getB_in (h := h) (d := d) (i := i) (by rw [hb]; simp)
  have gL := loc_setL H d i none (by rw [S.len]; exact hd) (by rw [S.lens]; exact hi)
  have hself : loc (setL H d i none) d i = none := by rw [gL]; simp
  have gB := getB_setB h d i (.arr sz 0 get') hd hi
  obtain ⟨a, b, c⟩ := S.upd (F' := F) (w' := w) (b' := .arr sz 0 get') (x := none) hd hi rfl rfl rfl (Nat.le_refl _) (fun _ _ q => q) (fun _ _ _ => rfl) (fun sz n g => by rw [hb]; simp)
    (fun b hb => by cases hb) (fun b hb _ => ⟨rfl, fun o q => q⟩) S.flt (by
      rw [hb]
      refine ⟨0, get', by rw [gB]; simp, Nat.le_refl _, fun e he => absurd he (by omega), fun _ a cap hO => ?_⟩
      rcases hO with ⟨q1, q2, _⟩ | ⟨b, _, _, q, _⟩
      · exact .inl ⟨q1, q2, hself⟩
      · rw [hl] at q; cases q)
    (fun pres => .inl ⟨rfl, hself⟩)
  exact ⟨a, b, c, len_setB _ _ _ _, fun d => Nat.le_of_eq (lens_setB _ _ _ _ d).symm⟩
theorem SR.nil0M (S : SR F H h w) {sz : Nat} {get get' : Nat → List C} (hb : getB h d i = .mar sz 0 get) (hl : loc H d i = none) : Stp F H h w F (setL H d i none) (setB h d i (.mar sz 0 get')) w := by
  obtain ⟨hd, hi⟩ := getB_in (h := h) (d := d) (i := i) (by rw [hb]; simp)
  have gL := loc_setL H d i none (by rw [S.len]; exact hd) (by rw [S.lens]; exact hi)
  have hself : loc (setL H d i none) d i = none := by rw [gL]; simp
  have gB := getB_setB h d i (.mar sz 0 get') hd hi
  obtain ⟨a, b, c⟩ := S.upd (F' := F) (w' := w) (b' := .mar sz 0 get') (x := none) hd hi rfl rfl rfl (Nat.le_refl _) (fun _ _ q => q) (fun _ _ _ => rfl) (fun sz n g => by rw [hb]; simp)
    (fun b hb => by cases hb) (fun b hb _ => ⟨rfl, fun o q => q⟩) S.flt (by
      rw [hb]
      refine .inl ⟨0, get', by rw [gB]; simp, Nat.le_refl _, fun _ => ⟨by rw [hself, hl], fun a cap hO => ?_⟩⟩
      rcases hO with ⟨q1, q2, _⟩ | ⟨b, _, _, q, _⟩
      · exact .inl ⟨q1, q2, hself⟩
      · rw [hl] at q; cases q)
    (fun pres => .inl ⟨rfl, hself⟩)
  exact ⟨a, b, c, len_setB _ _ _ _, fun d => Nat.le_of_eq (lens_setB _ _ _ _ d).symm⟩

theorem fits {n m cap bytes lim : Nat} (hcap : cap < n + m) (hlim : lim * bytes ≤ 140737488355328) (hle : n + m ≤ lim) : Builtin.nextslicecap (n + m) cap * bytes ≤ 281474976710656 :=
  growslice_fits hcap (Nat.le_trans (Nat.mul_le_mul_right _ hle) hlim)

/-- What is behind a handle that owns its row. -/
theorem SR.rowA (S : SR F H h w) {sz n cap : Nat} {get : Nat → List C} {ad : Option Addr} (hb : getB h d i = .arr sz n get) (hO : Own H w d i sz n ad cap) :
    (n = 0 ∧ cap = 0 ∧ loc H d i = none) ∨ ∃ b us t, loc H d i = some b ∧ ad = some ⟨b, 0, none⟩ ∧ w.heap[b]? = some (.cells us t (0, 0)) ∧ us.size = cap * sz ∧ n ≤ cap ∧ cap ≤ 9223372036854775807 ∧ RowC F w us sz n get := by
  have := S.blk d i
  rw [hb] at this
  rcases hO with q | ⟨b, us, t, q1, q2, q3, q4, q5, q6⟩
  · exact .inl q
  · rcases this with ⟨_, k⟩ | ⟨b2, us2, t2, k1, k2, k3, k4⟩
    · rw [q1] at k; cases k
    · rw [q1] at k1; cases k1
      rw [q3] at k2; cases k2
      exact .inr ⟨b, us, t, q1, q2, q3, q4, q5, q6, k4⟩
theorem SR.rowM (S : SR F H h w) {sz n cap : Nat} {get : Nat → List C} {ad : Option Addr} (hb : getB h d i = .mar sz n get) (hO : Own H w d i sz n ad cap) :
    (n = 0 ∧ cap = 0 ∧ loc H d i = none) ∨ ∃ b us t, loc H d i = some b ∧ ad = some ⟨b, 0, none⟩ ∧ w.heap[b]? = some (.cells us t (0, 0)) ∧ us.size = cap * sz ∧ n ≤ cap ∧ cap ≤ 9223372036854775807 ∧ RowC F w us sz n get := by
  have := S.blk d i
  rw [hb] at this
  rcases hO with q | ⟨b, us, t, q1, q2, q3, q4, q5, q6⟩
  · exact .inl q
  · rcases this with ⟨_, k⟩ | ⟨b2, us2, t2, k1, k2, k3, k4⟩
    · rw [q1] at k; cases k
    · rw [q1] at k1; cases k1
      rw [q3] at k2; cases k2
      exact .inr ⟨b, us, t, q1, q2, q3, q4, q5, q6, k4⟩
theorem grown_size {sz n m cap : Nat} {olds news : List Value} {zc : Array Value} (h1 : olds.length = n * sz) (h2 : news.length = m * sz) (hz : zc.size = sz) (hc : n + m ≤ cap) :
    (olds.toArray ++ news.toArray ++ Builtin.zeroCells zc (cap - (n + m))).size = cap * sz := by
  simp only [Array.size_append, List.size_toArray, size_zeroCells, hz, h1, h2, ← Nat.add_mul]
  congr 1
  omega
theorem grown_list {olds news : List Value} {zc : Array Value} : olds.toArray ++ news.toArray ++ zc = (olds ++ news ++ zc.toList).toArray := by
  rw [← Array.toList_inj]; simp
theorem setRow_size' {sz n m cap : Nat} {cur : Array Value} {news : List Value} (hn : news.length = m * sz) (hs : cur.size = cap * sz) (hc : n + m ≤ cap) : (cur.toList.take (n * sz) ++ news ++ cur.toList.drop (n * sz + news.length)).length = cur.size := by
  have h1 : (n + m) * sz ≤ cap * sz := Nat.mul_le_mul_right _ hc
  rw [Nat.add_mul] at h1
  simp only [List.length_append, List.length_take, List.length_drop, Array.length_toList]
  omega

/-- 'append', as the machine has it. -/
theorem append_sim {α : Type} {base : Nat} {g : G} {s : St} {k : O → St → Option α} {r : α} {sz lim : Nat} {zl : List C} {o o2 : O} {v v2 : Value} (ht : P.underlying t = some (.slice e)) (ht2 : P.underlying t2 = some (.slice e2)) (hi : P.info? e = some inf) (hz : inf.zero = some z)
    (hsz : inf.size = sz) (h0 : 0 < sz) (hzc : z.cells.size = sz) (hlim : lim * inf.bytes ≤ 140737488355328) (hl63 : lim ≤ 9223372036854775807)
    (S : SR F H s.fr w) (hr : RO F H s.fr w (AOk d) o v) (hr2 : RO F H s.fr w (AOk d) o2 v2) (hk : appendAt d base g s k sz lim zl o2 o = some r) :
    ∃ o' s' F' H' v' w', k o' s' = some r ∧ s'.lp = s.lp ∧ Stp F H s.fr w F' H' s'.fr w' ∧ RO F' H' s'.fr w' (AOk d) o' v' ∧ (Builtin.append_ #[t, t2] ty #[v, v2]).run P w = .ok v' w' := by
  subst hsz
  have cap63 : ∀ n old, n ≤ lim → grownCap w n old e ≤ 9223372036854775807 := fun n old hn => grownCap_le_maxLen w n old e (by unfold maxLen; omega)
  unfold appendAt at hk
  split at hk <;> try (cases hk; done)
  · obtain ⟨sa, rfl⟩ := ro_nils hr
    split at hk <;> try (cases hk; done)
    rename_i m get h1 e1
    split at hk <;> try (cases hk; done)
    rename_i hc
    obtain ⟨hc1, hc2, hc3⟩ := hc
    obtain ⟨F1, H1, k1, xa, xc, rfl, hv⟩ := content_sim S hr2 e1
    obtain ⟨news, hn, hf⟩ := content_cells (P := P) hv hc1
    obtain ⟨fg, fd, fi⟩ := fresh_getB hc3
    by_cases hm : m = 0
    · subst hm
      have hnil : news = [] := List.eq_nil_of_length_eq_zero (by simpa using hn.1)
      subst hnil
      have st := k1.sr.newNil hc3 (b' := .arr inf.size 0 get) (.inl ⟨_, _, rfl⟩)
      have gB := getB_setB h1 d (base + g.an) (.arr inf.size 0 get) fd fi d (base + g.an)
      have gL := loc_setL H1 d (base + g.an) none (by rw [k1.sr.len]; exact fd) (by rw [k1.sr.lens]; exact fi) d (base + g.an)
      simp only [and_self, if_true] at gB gL
      refine ⟨_, _, F1, _, .slice sa 0 0, w, hk, rfl, k1.trans st, .arr (Nat.le_refl _) (fun q => by omega) ?_, run_app_zero ht ht2 hi (hf w rfl)⟩
      unfold RowAt
      rw [gB]
      exact ⟨rfl, Nat.le_refl _, .slice0, fun e he => absurd he (by omega), fun _ => .inl ⟨rfl, rfl, gL⟩⟩
    · have hg := run_app_grow (P := P) (w := w) (ty := ty) (s := .slice sa 0 0) (cap := 0) (n := 0) (m := m) (olds := []) ht ht2 hi hz rfl (fun w2 _ => by cases sa <;> simp [Builtin.firstCells, loadCells, loadCellsFrom]) hf (by omega) (by omega) (fits (by omega) hlim (by omega))
      have hge := grownCap_ge w (0 + m) 0 e
      have hc63 := cap63 (0 + m) 0 (by omega)
      have hsize := grown_size (olds := []) (n := 0) (by simp) hn.1 hzc hge
      rw [grown_list] at hg hsize
      generalize grownCap w (0 + m) 0 e = GC at hg hge hc63 hsize
      generalize (Builtin.zeroCells z.cells (GC - (0 + m))).toList = rest at hg hsize
      have hrow : RowC F1 w ([] ++ news ++ rest).toArray inf.size m get := by simpa using hn.rowC (rest := rest) h0
      have st := k1.sr.new hc3 (w' := w.drew.alloc (.cells ([] ++ news ++ rest).toArray e)) (us := ([] ++ news ++ rest).toArray) (t := e) rfl rfl rfl rfl (b' := .arr inf.size m get) (m := m * inf.size) ⟨rfl, hrow⟩
      have gB := getB_setB h1 d (base + g.an) (.arr inf.size m get) fd fi d (base + g.an)
      have gL := loc_setL H1 d (base + g.an) (some w.heap.size) (by rw [k1.sr.len]; exact fd) (by rw [k1.sr.lens]; exact fi) d (base + g.an)
      simp only [and_self, if_true] at gB gL
      have hnew : (w.drew.alloc (.cells ([] ++ news ++ rest).toArray e)).heap[w.heap.size]? = some (.cells ([] ++ news ++ rest).toArray e (0, 0)) := heap_alloc_new w.drew _
      refine ⟨_, _, _, _, _, _, hk, rfl, k1.trans st, .arr (Nat.le_refl _) (fun q => ⟨_, rfl⟩) ?_, by simpa using hg⟩
      unfold RowAt
      rw [gB]
      refine ⟨rfl, Nat.le_refl _, VR.of_row hnew (fun o q => .inr ⟨rfl, q⟩) (hrow.mono st.ext.sub st.ext.fix) (by simpa using hge), hrow.2.2.1, fun _ => .inr ⟨_, _, _, gL, rfl, hnew, by simpa using hsize, by simpa using hge, by simpa using hc63⟩⟩
  · rename_i dd i sz0 n
    obtain ⟨sa, cap, rfl, hA, hrow0, hsm⟩ := ro_arr hr
    split at hk <;> try (cases hk; done)
    rename_i m get' h1 e1
    obtain ⟨F1, H1, k1, xa, xc, rfl, hv⟩ := content_sim S hr2 e1
    obtain ⟨sa', cap', e0, _, hrow1, _⟩ := ro_arr (k1.pres _ _ _ hr)
    cases e0
    unfold RowAt at hrow1
    split at hk <;> try (cases hk; done)
    · rename_i sz' n' get e3
      split at hk <;> try (cases hk; done)
      rename_i hc
      obtain ⟨hc1, rfl, rfl, hc4⟩ := hc
      obtain ⟨news, hn, hf⟩ := content_cells (P := P) hv hc1
      rw [e3] at hrow1
      obtain ⟨rfl, _, _, _, hO⟩ := hrow1
      have hO := hO rfl
      obtain ⟨fd, fi⟩ := getB_in (h := h1) (d := dd) (i := i) (by rw [e3]; simp)
      have gB := getB_setB h1 dd i (.arr inf.size (n' + m) (sAppend n' get get')) fd fi dd i
      simp only [and_self, if_true] at gB
      have gL := fun x => loc_setL H1 dd i x (by rw [k1.sr.len]; exact fd) (by rw [k1.sr.lens]; exact fi) dd i
      simp only [and_self, if_true] at gL
      rcases k1.sr.rowA e3 hO with ⟨rfl, rfl, hl⟩ | ⟨b, us, te, hl, rfl, hh, hs, hnc, hc63, hrc⟩
      · by_cases hm : m = 0
        · subst hm
          have hnil : news = [] := List.eq_nil_of_length_eq_zero (by simpa using hn.1)
          subst hnil
          have st := k1.sr.nil0A e3 hl (get' := sAppend 0 get get')
          refine ⟨_, _, F1, _, .slice sa 0 0, w, hk, rfl, k1.trans st, .arr hA (fun q => by omega) ?_, run_app_zero ht ht2 hi (hf w rfl)⟩
          unfold RowAt
          rw [gB]
          exact ⟨rfl, Nat.le_refl _, .slice0, fun e he => absurd he (by omega), fun _ => .inl ⟨rfl, rfl, gL none⟩⟩
        · have hg := run_app_grow (P := P) (w := w) (ty := ty) (s := .slice sa 0 0) (cap := 0) (n := 0) (m := m) (olds := []) ht ht2 hi hz rfl (fun w2 _ => by cases sa <;> simp [Builtin.firstCells, loadCells, loadCellsFrom]) hf (by omega) (by omega) (fits (by omega) hlim (by omega))
          have hge := grownCap_ge w (0 + m) 0 e
          have hc63 := cap63 (0 + m) 0 (by omega)
          have hsize := grown_size (olds := []) (n := 0) (by simp) hn.1 hzc hge
          rw [grown_list] at hg hsize
          generalize grownCap w (0 + m) 0 e = GC at hg hge hc63 hsize
          generalize (Builtin.zeroCells z.cells (GC - (0 + m))).toList = rest at hg hsize
          have hrow : RowC F1 w ([] ++ news ++ rest).toArray inf.size (0 + m) (sAppend 0 get get') := RowL.app h0 RowL.zero hn
          have st := k1.sr.moveA e3 (w' := w.drew.alloc (.cells ([] ++ news ++ rest).toArray e)) (us := ([] ++ news ++ rest).toArray) (t := e) rfl rfl rfl rfl hrow (by omega) (fun e he => absurd he (by omega))
          have hnew : (w.drew.alloc (.cells ([] ++ news ++ rest).toArray e)).heap[w.heap.size]? = some (.cells ([] ++ news ++ rest).toArray e (0, 0)) := heap_alloc_new w.drew _
          refine ⟨_, _, _, _, _, _, hk, rfl, k1.trans st, .arr hA (fun q => ⟨_, rfl⟩) ?_, hg⟩
          unfold RowAt
          rw [gB]
          refine ⟨rfl, Nat.le_refl _, VR.of_row hnew (fun o q => .inr ⟨rfl, q⟩) (hrow.mono st.ext.sub st.ext.fix) hge, hrow.2.2.1, fun _ => .inr ⟨_, _, _, gL _, rfl, hnew, hsize, hge, hc63⟩⟩
      · have hlst := hrc.list
        by_cases hroom : n' + m ≤ cap
        · have hfit : n' * inf.size + news.length ≤ us.size := by rw [hn.1, hs, ← Nat.add_mul]; exact Nat.mul_le_mul_right _ hroom
          have hg := run_app_room (P := P) (w := w) (ty := ty) ht ht2 hi hh (hf w rfl) hn.1 hn.2.1 hroom hfit
          have hsl := setRow_size' (n := n') hn.1 hs hroom
          have hrow : RowC F1 w (us.toList.take (n' * inf.size) ++ news ++ us.toList.drop (n' * inf.size + news.length)).toArray inf.size (n' + m) (sAppend n' get get') := RowL.app h0 hlst hn
          have st := k1.sr.intoA e3 hl hh (us' := (us.toList.take (n' * inf.size) ++ news ++ us.toList.drop (n' * inf.size + news.length)).toArray) (by simpa using hsl) hrow (by omega) (fun e he => by simp [sAppend, he]) (fun o ho => by
            have ho2 : o < us.size := by omega
            rw [List.getElem?_toArray, List.append_assoc, List.getElem?_append_left (by simp; omega), List.getElem?_take, if_pos ho]; simp)
          have hnew := setRow_heap w b us (us.toList.take (n' * inf.size) ++ news ++ us.toList.drop (n' * inf.size + news.length)).toArray te _ hh
          refine ⟨_, _, _, _, _, _, hk, rfl, k1.trans st, .arr hA (fun q => ⟨_, rfl⟩) ?_, hg⟩
          unfold RowAt
          rw [gB]
          refine ⟨rfl, Nat.le_refl _, VR.of_row hnew (fun o q => .inr ⟨rfl, q⟩) (hrow.mono st.ext.sub st.ext.fix) hroom, hrow.2.2.1, fun _ => .inr ⟨_, _, _, gL _, rfl, hnew, by rw [← hs]; simpa using hsl, hroom, hc63⟩⟩
        · have hg := run_app_grow (P := P) (w := w) (ty := ty) (s := .slice (some ⟨b, 0, none⟩) n' cap) (cap := cap) (n := n') (m := m) (olds := us.toList.take (n' * inf.size)) ht ht2 hi hz rfl (Own.firstCells (P := P) (get := get) hO (.inl ⟨b, us, te, hl, hh, hrc.1, rfl⟩)) hf (by omega) (by omega) (fits (by omega) hlim (by omega))
          have hge := grownCap_ge w (n' + m) cap e
          have hc63' := cap63 (n' + m) cap (by omega)
          have hsize := grown_size (n := n') hlst.1 hn.1 hzc hge
          rw [grown_list] at hg hsize
          generalize grownCap w (n' + m) cap e = GC at hg hge hc63' hsize
          generalize (Builtin.zeroCells z.cells (GC - (n' + m))).toList = rest at hg hsize
          have hrow : RowC F1 w (us.toList.take (n' * inf.size) ++ news ++ rest).toArray inf.size (n' + m) (sAppend n' get get') := RowL.app h0 hlst hn
          have st := k1.sr.moveA e3 (w' := w.drew.alloc (.cells (us.toList.take (n' * inf.size) ++ news ++ rest).toArray e)) (us := (us.toList.take (n' * inf.size) ++ news ++ rest).toArray) (t := e) rfl rfl rfl rfl hrow (by omega) (fun e he => by simp [sAppend, he])
          have hnew : (w.drew.alloc (.cells (us.toList.take (n' * inf.size) ++ news ++ rest).toArray e)).heap[w.heap.size]? = some (.cells (us.toList.take (n' * inf.size) ++ news ++ rest).toArray e (0, 0)) := heap_alloc_new w.drew _
          refine ⟨_, _, _, _, _, _, hk, rfl, k1.trans st, .arr hA (fun q => ⟨_, rfl⟩) ?_, hg⟩
          unfold RowAt
          rw [gB]
          refine ⟨rfl, Nat.le_refl _, VR.of_row hnew (fun o q => .inr ⟨rfl, q⟩) (hrow.mono st.ext.sub st.ext.fix) hge, hrow.2.2.1, fun _ => .inr ⟨_, _, _, gL _, rfl, hnew, hsize, hge, hc63'⟩⟩
    · rename_i sz' n' get e3
      split at hk <;> try (cases hk; done)
      rename_i hc
      obtain ⟨hc1, rfl, rfl, hc4⟩ := hc
      obtain ⟨news, hn, hf⟩ := content_cells (P := P) hv hc1
      rw [e3] at hrow1
      obtain ⟨rfl, _, hO⟩ := hrow1
      have hO := hO rfl
      obtain ⟨fd, fi⟩ := getB_in (h := h1) (d := dd) (i := i) (by rw [e3]; simp)
      have gB := getB_setB h1 dd i (.mar inf.size (n' + m) (sAppend n' get get')) fd fi dd i
      simp only [and_self, if_true] at gB
      have gL := fun x => loc_setL H1 dd i x (by rw [k1.sr.len]; exact fd) (by rw [k1.sr.lens]; exact fi) dd i
      simp only [and_self, if_true] at gL
      rcases k1.sr.rowM e3 hO with ⟨rfl, rfl, hl⟩ | ⟨b, us, te, hl, rfl, hh, hs, hnc, hc63, hrc⟩
      · by_cases hm : m = 0
        · subst hm
          have hnil : news = [] := List.eq_nil_of_length_eq_zero (by simpa using hn.1)
          subst hnil
          have st := k1.sr.nil0M e3 hl (get' := sAppend 0 get get')
          refine ⟨_, _, F1, _, .slice sa 0 0, w, hk, rfl, k1.trans st, .arr hA (fun q => by omega) ?_, run_app_zero ht ht2 hi (hf w rfl)⟩
          unfold RowAt
          rw [gB]
          exact ⟨rfl, Nat.le_refl _, fun _ => .inl ⟨rfl, rfl, gL none⟩⟩
        · have hg := run_app_grow (P := P) (w := w) (ty := ty) (s := .slice sa 0 0) (cap := 0) (n := 0) (m := m) (olds := []) ht ht2 hi hz rfl (fun w2 _ => by cases sa <;> simp [Builtin.firstCells, loadCells, loadCellsFrom]) hf (by omega) (by omega) (fits (by omega) hlim (by omega))
          have hge := grownCap_ge w (0 + m) 0 e
          have hc63 := cap63 (0 + m) 0 (by omega)
          have hsize := grown_size (olds := []) (n := 0) (by simp) hn.1 hzc hge
          rw [grown_list] at hg hsize
          generalize grownCap w (0 + m) 0 e = GC at hg hge hc63 hsize
          generalize (Builtin.zeroCells z.cells (GC - (0 + m))).toList = rest at hg hsize
          have hrow : RowC F1 w ([] ++ news ++ rest).toArray inf.size (0 + m) (sAppend 0 get get') := RowL.app h0 RowL.zero hn
          have st := k1.sr.moveM e3 (w' := w.drew.alloc (.cells ([] ++ news ++ rest).toArray e)) (us := ([] ++ news ++ rest).toArray) (t := e) rfl rfl rfl rfl hrow (by omega)
          have hnew : (w.drew.alloc (.cells ([] ++ news ++ rest).toArray e)).heap[w.heap.size]? = some (.cells ([] ++ news ++ rest).toArray e (0, 0)) := heap_alloc_new w.drew _
          refine ⟨_, _, _, _, _, _, hk, rfl, k1.trans st, .arr hA (fun q => ⟨_, rfl⟩) ?_, hg⟩
          unfold RowAt
          rw [gB]
          exact ⟨rfl, Nat.le_refl _, fun _ => .inr ⟨_, _, _, gL _, rfl, hnew, hsize, hge, hc63⟩⟩
      · have hlst := hrc.list
        by_cases hroom : n' + m ≤ cap
        · have hfit : n' * inf.size + news.length ≤ us.size := by rw [hn.1, hs, ← Nat.add_mul]; exact Nat.mul_le_mul_right _ hroom
          have hg := run_app_room (P := P) (w := w) (ty := ty) ht ht2 hi hh (hf w rfl) hn.1 hn.2.1 hroom hfit
          have hsl := setRow_size' (n := n') hn.1 hs hroom
          have hrow : RowC F1 w (us.toList.take (n' * inf.size) ++ news ++ us.toList.drop (n' * inf.size + news.length)).toArray inf.size (n' + m) (sAppend n' get get') := RowL.app h0 hlst hn
          have st := k1.sr.intoM e3 hl hh (us' := (us.toList.take (n' * inf.size) ++ news ++ us.toList.drop (n' * inf.size + news.length)).toArray) (by simpa using hsl) hrow (by omega)
          have hnew := setRow_heap w b us (us.toList.take (n' * inf.size) ++ news ++ us.toList.drop (n' * inf.size + news.length)).toArray te _ hh
          refine ⟨_, _, _, _, _, _, hk, rfl, k1.trans st, .arr hA (fun q => ⟨_, rfl⟩) ?_, hg⟩
          unfold RowAt
          rw [gB]
          exact ⟨rfl, Nat.le_refl _, fun _ => .inr ⟨_, _, _, gL _, rfl, hnew, by rw [← hs]; simpa using hsl, hroom, hc63⟩⟩
        · have hg := run_app_grow (P := P) (w := w) (ty := ty) (s := .slice (some ⟨b, 0, none⟩) n' cap) (cap := cap) (n := n') (m := m) (olds := us.toList.take (n' * inf.size)) ht ht2 hi hz rfl (Own.firstCells (P := P) (get := get) hO (.inl ⟨b, us, te, hl, hh, hrc.1, rfl⟩)) hf (by omega) (by omega) (fits (by omega) hlim (by omega))
          have hge := grownCap_ge w (n' + m) cap e
          have hc63' := cap63 (n' + m) cap (by omega)
          have hsize := grown_size (n := n') hlst.1 hn.1 hzc hge
          rw [grown_list] at hg hsize
          generalize grownCap w (n' + m) cap e = GC at hg hge hc63' hsize
          generalize (Builtin.zeroCells z.cells (GC - (n' + m))).toList = rest at hg hsize
          have hrow : RowC F1 w (us.toList.take (n' * inf.size) ++ news ++ rest).toArray inf.size (n' + m) (sAppend n' get get') := RowL.app h0 hlst hn
          have st := k1.sr.moveM e3 (w' := w.drew.alloc (.cells (us.toList.take (n' * inf.size) ++ news ++ rest).toArray e)) (us := (us.toList.take (n' * inf.size) ++ news ++ rest).toArray) (t := e) rfl rfl rfl rfl hrow (by omega)
          have hnew : (w.drew.alloc (.cells (us.toList.take (n' * inf.size) ++ news ++ rest).toArray e)).heap[w.heap.size]? = some (.cells (us.toList.take (n' * inf.size) ++ news ++ rest).toArray e (0, 0)) := heap_alloc_new w.drew _
          refine ⟨_, _, _, _, _, _, hk, rfl, k1.trans st, .arr hA (fun q => ⟨_, rfl⟩) ?_, hg⟩
          unfold RowAt
          rw [gB]
          exact ⟨rfl, Nat.le_refl _, fun _ => .inr ⟨_, _, _, gL _, rfl, hnew, hsize, hge, hc63'⟩⟩
end
end Go.Ab

/-! ## As10 -/
namespace Go.Ab
open Go.RowKit

/-- A finished cell at zero. -/
inductive ZC : C → Value → Prop
  | bool (b : Bool) : ZC (.bool b) (.bool b)
  | int (k : IntKind) (n : Int) : ZC (.int k n) (.int k n)
  | str (s : ByteArray) : ZC (.str s) (.string s)
  | nilp : ZC .nilp (.pointer none)
  | nilf : ZC .nilf .nilFunc
  | nilm : ZC .nilm (.map none)
  | nils (g : Nat → List C) : ZC (.slice 0 g) (.slice none 0 0)

section
variable {F : Fz} {H : Hs} {h h' : Heap} {w w' : World} {d i b : Nat} {ts : List O} {a : Act} {P : Program}

theorem ZC.vr {c : C} {v : Value} (hz : ZC c v) : VR F w c v ∧ v.oneCell' = true := by
  cases hz with
  | bool b => exact ⟨.bool b, rfl⟩
  | int k n => exact ⟨.int k n, rfl⟩
  | str s => exact ⟨.str s, rfl⟩
  | nilp => exact ⟨.nilp, rfl⟩
  | nilf => exact ⟨.nilf, rfl⟩
  | nilm => exact ⟨.nilm, rfl⟩
  | nils g => exact ⟨.slice0, rfl⟩
theorem All2.len {α β : Type} {R : α → β → Prop} {l : List α} {m : List β} (h : All2 R l m) : m.length = l.length := by
  induction h with
  | nil => rfl
  | cons h t ih => simp [ih]
theorem All2.get {α β : Type} {R : α → β → Prop} {l : List α} {m : List β} (h : All2 R l m) : ∀ {j : Nat} {x : α} {y : β}, l[j]? = some x → m[j]? = some y → R x y := by
  induction h with
  | nil => intro j x y hx; simp at hx
  | cons h t ih =>
    intro j x y hx hy
    cases j with
    | zero => simp at hx hy; subst hx; subst hy; exact h
    | succ j => exact ih hx hy

/-- Rows of zeros. -/
theorem made_row {zl : List C} {zc : Array Value} (hz : All2 ZC zl zc.toList) (n : Nat) : RowL F w zl.length n (fun _ => zl) (madeCells zc (n * zl.length)).toList := by
  have hlen : zc.size = zl.length := by rw [← Array.length_toList]; exact hz.len
  have hget : ∀ j (v : Value), (madeCells zc (n * zl.length)).toList[j]? = some v → ∃ c, zl[j % zl.length]? = some c ∧ ZC c v := by
    intro j v hv
    simp only [madeCells, Array.toList_map, Array.toList_range, List.getElem?_map, Option.map_eq_some_iff] at hv
    obtain ⟨j', h1, h2⟩ := hv
    rw [List.getElem?_eq_some_iff] at h1
    obtain ⟨h3, h4⟩ := h1
    simp at h3 h4
    subst h4
    have h0 : 0 < zl.length := by rcases Nat.eq_zero_or_pos zl.length with q | q; (rw [q] at h3; simp at h3); exact q
    have hm : j % zl.length < zl.length := Nat.mod_lt _ h0
    refine ⟨_, List.getElem?_eq_getElem hm, ?_⟩
    refine hz.get (List.getElem?_eq_getElem hm) ?_
    rw [hlen] at h2
    rw [← h2, getElem!_pos _ _ (by omega)]
    simp [hlen, hm]
  refine ⟨by simp [madeCells], fun u hu => ?_, fun _ _ => rfl, fun e j c u he hc hu => ?_⟩
  · obtain ⟨j, hj, rfl⟩ := List.mem_iff_getElem.1 hu
    obtain ⟨c, _, hc⟩ := hget j _ (List.getElem?_eq_getElem hj)
    exact (hc.vr (F := F) (w := w)).2
  · obtain ⟨c2, h1, h2⟩ := hget _ _ hu
    have hj := (List.getElem?_eq_some_iff.1 hc).1
    rw [Nat.add_comm, Nat.mul_comm, Nat.add_mul_mod_self_left, Nat.mod_eq_of_lt hj] at h1
    rw [hc] at h1
    cases h1
    exact h2.vr.1

theorem lay_vars {α : Type} {base an at_ : Nat} {s : St} {k : O → St → Option α} {r : α} {sl : PT} {cs : List O} {us : Array Value} {t : TypeId} (S : SR F H s.fr w) (hr : ROs F H s.fr w (AOk d) cs us.toList)
    (hk : (match nilFix d at_ sl cs s.fr with
      | some (cs, h) => if fresh h d (base + an) = true then k (.ref d (base + an) 0) { s with fr := setB h d (base + an) (.vars cs) } else none
      | none => none) = some r) :
    ∃ s' F' H', k (.ref d (base + an) 0) s' = some r ∧ s'.lp = s.lp ∧ Stp F H s.fr w F' H' s'.fr (w.alloc (.cells us t)) ∧ RO F' H' s'.fr (w.alloc (.cells us t)) (AOk d) (.ref d (base + an) 0) (.pointer (some ⟨w.heap.size, 0, none⟩)) := by
  split at hk <;> try (cases hk; done)
  rename_i cs' h1 e1
  split at hk <;> try (cases hk; done)
  rename_i hf
  obtain ⟨H1, k1, k2⟩ := nilFix_sim (Nat.le_refl d) S hr e1
  obtain ⟨fg, fd, fi⟩ := fresh_getB hf
  have st := k1.sr.new hf (w' := w.alloc (.cells us t)) (us := us) (t := t) rfl rfl rfl rfl (b' := .vars cs') (m := 0) ⟨rfl, by rw [← k2.1]; simp, fun j o u ho hu => k2.2 j o u ho (by simpa using hu)⟩
  have gB := getB_setB h1 d (base + an) (.vars cs') fd fi d (base + an)
  have gL := loc_setL H1 d (base + an) (some w.heap.size) (by rw [k1.sr.len]; exact fd) (by rw [k1.sr.lens]; exact fi) d (base + an)
  simp only [and_self, if_true] at gB gL
  exact ⟨_, _, _, hk, rfl, k1.trans st, .ref (Nat.le_refl d) (by show isVars (getB (setB h1 d (base + an) (.vars cs')) d (base + an)) = true; rw [gB]; rfl) gL⟩

/-- A new row that may be written, or not. -/
theorem lay_row {an base n sz cap : Nat} {get : Nat → List C} {us : Array Value} {t : TypeId} (mu : Bool) (S : SR F H h w) (hf : fresh h d (base + an) = true) (hw : w'.heap = w.heap.push (.cells us t (0, 0))) (hos : w'.os = w.os) (htape : w'.tape = w.tape) (hout : w'.output = w.output)
    (hr : RowC F w us sz n get) (hs : us.size = cap * sz) (hn : n ≤ cap) (hc : cap ≤ 9223372036854775807) :
    ∃ F' H', Stp F H h w F' H' (setB h d (base + an) (if mu = true then .mar sz n get else .arr sz n get)) w' ∧ RO F' H' (setB h d (base + an) (if mu = true then .mar sz n get else .arr sz n get)) w' (AOk d) (.arr d (base + an) sz n) (.slice (some ⟨w.heap.size, 0, none⟩) n cap) := by
  obtain ⟨fg, fd, fi⟩ := fresh_getB hf
  have gL := loc_setL H d (base + an) (some w.heap.size) (by rw [S.len]; exact fd) (by rw [S.lens]; exact fi) d (base + an)
  have hnew : w'.heap[w.heap.size]? = some (.cells us t (0, 0)) := by rw [hw]; simp
  simp only [and_self, if_true] at gL
  cases mu with
  | false =>
    have gB := getB_setB h d (base + an) (.arr sz n get) fd fi d (base + an)
    simp only [and_self, if_true] at gB
    have st := S.new hf (w' := w') (us := us) (t := t) hw hos htape hout (b' := .arr sz n get) (m := n * sz) ⟨rfl, hr⟩
    refine ⟨_, _, by simpa using st, .arr (Nat.le_refl d) (fun _ => ⟨_, rfl⟩) ?_⟩
    unfold RowAt
    simp only [Bool.false_eq_true, if_false]
    rw [gB]
    exact ⟨rfl, Nat.le_refl _, VR.of_row hnew (fun o q => .inr ⟨rfl, q⟩) (hr.mono st.ext.sub st.ext.fix) hn, hr.2.2.1, fun _ => .inr ⟨_, _, _, gL, rfl, hnew, hs, hn, hc⟩⟩
  | true =>
    have gB := getB_setB h d (base + an) (.mar sz n get) fd fi d (base + an)
    simp only [and_self, if_true] at gB
    have st := S.new hf (w' := w') (us := us) (t := t) hw hos htape hout (b' := .mar sz n get) (m := 0) ⟨rfl, hr⟩
    refine ⟨_, _, by simpa using st, .arr (Nat.le_refl d) (fun _ => ⟨_, rfl⟩) ?_⟩
    unfold RowAt
    simp only [if_true]
    rw [gB]
    exact ⟨rfl, Nat.le_refl _, fun _ => .inr ⟨_, _, _, gL, rfl, hnew, hs, hn, hc⟩⟩
theorem lay_nil {an base : Nat} {z : List C} (mu : Bool) (S : SR F H h w) (hf : fresh h d (base + an) = true) {sa : Option Addr} :
    ∃ H', Stp F H h w F H' (setB h d (base + an) (if mu = true then .mar z.length 0 (fun _ => z) else .arr z.length 0 (fun _ => z))) w ∧ RO F H' (setB h d (base + an) (if mu = true then .mar z.length 0 (fun _ => z) else .arr z.length 0 (fun _ => z))) w (AOk d) (.arr d (base + an) z.length 0) (.slice sa 0 0) := by
  obtain ⟨fg, fd, fi⟩ := fresh_getB hf
  have gL := loc_setL H d (base + an) none (by rw [S.len]; exact fd) (by rw [S.lens]; exact fi) d (base + an)
  simp only [and_self, if_true] at gL
  cases mu with
  | false =>
    have gB := getB_setB h d (base + an) (.arr z.length 0 (fun _ => z)) fd fi d (base + an)
    simp only [and_self, if_true] at gB
    have st := S.newNil hf (b' := .arr z.length 0 (fun _ => z)) (.inl ⟨_, _, rfl⟩)
    refine ⟨_, by simpa using st, .arr (Nat.le_refl d) (fun q => by omega) ?_⟩
    unfold RowAt
    simp only [Bool.false_eq_true, if_false]
    rw [gB]
    exact ⟨rfl, Nat.le_refl _, .slice0, fun e he => absurd he (by omega), fun _ => .inl ⟨rfl, rfl, gL⟩⟩
  | true =>
    have gB := getB_setB h d (base + an) (.mar z.length 0 (fun _ => z)) fd fi d (base + an)
    simp only [and_self, if_true] at gB
    have st := S.newNil hf (b' := .mar z.length 0 (fun _ => z)) (.inr ⟨_, _, rfl⟩)
    refine ⟨_, by simpa using st, .arr (Nat.le_refl d) (fun q => by omega) ?_⟩
    unfold RowAt
    simp only [if_true]
    rw [gB]
    exact ⟨rfl, Nat.le_refl _, fun _ => .inl ⟨rfl, rfl, gL⟩⟩

/-! ### Slices built out of parts -/
inductive TrPartS : Nat × Operand → Nat × Arg × PT → Prop
  | mk {i : Nat} {x : Operand} {y : Arg} {sl : PT} (hx : TrA x y) : TrPartS (i, x) (i, y, sl)
theorem partsS_sim {ok : Bool} {sz : Nat} {zl : List C} {ps : List (Nat × Operand)} {qs : List (Nat × Arg × PT)} (hq : All2 TrPartS ps qs) : ∀ {l l' : List (List C)} {us : Array Value} {F : Fz} {H : Hs} {h h' : Heap},
    SR F H h w → AR F H h w d ts a.tmps → partsS ok sz ts qs l h = some (l', h') → RowL F w sz l.length (fun i => l.getD i zl) us.toList →
    ∃ F' H' us', Stp F H h w F' H' h' w ∧ l'.length = l.length ∧ Instr.fill (fun i => some (i * sz, sz)) us (ps.map fun p => (p.1, a.eval p.2)) = some us' ∧ RowL F' w sz l'.length (fun i => l'.getD i zl) us'.toList := by
  induction hq with
  | nil =>
    intro l l' us F H h h' S hA hk hr
    simp only [partsS, Option.some.injEq, Prod.mk.injEq] at hk
    obtain ⟨rfl, rfl⟩ := hk
    exact ⟨F, H, us, Stp.refl S, rfl, rfl, hr⟩
  | @cons p q ll m h1 t ih =>
    intro l l' us F H h h' S hA hk hr
    cases h1 with
    | @mk i x y sl hx =>
      simp only [partsS] at hk
      split at hk <;> try (cases hk; done)
      rename_i cs h2 e1
      split at hk <;> try (cases hk; done)
      rename_i cs2 e2
      split at hk <;> try (cases hk; done)
      rename_i hc
      obtain ⟨hc1, hc2, hc3⟩ := hc
      have := allC_eq e2
      subst this
      have hro := hx.ro hA
      by_cases hu : rd ts y = .undef
      · rw [hu] at e1
        simp only [O.cells, restCells] at e1
        simp at e1
        cases cs2 with
        | nil => simp at e1
        | cons x y => simp at e1
      obtain ⟨F1, H1, k1, k2⟩ := restCells_sim S (hro.cells hu) e1
      have hsz : (a.eval x).cells.size = sz := by rw [← Array.length_toList, k2.1, List.length_map, hc2]
      have hones : ∀ u ∈ (a.eval x).cells.toList, u.oneCell' = true := k2.ones (by rw [List.all_eq_true] at hc3 ⊢; intro x hx; obtain ⟨y, hy, rfl⟩ := List.mem_map.1 hx; exact hc3 y hy)
      have hle : i * sz + sz ≤ l.length * sz := by have := Nat.mul_le_mul_right sz (show i + 1 ≤ l.length from hc1); rw [Nat.succ_mul] at this; exact this
      have hus : us.size = l.length * sz := by rw [← Array.length_toList]; exact hr.1
      have hst := fill_step (cells := us) (vc := (a.eval x).cells) (off := i * sz) (by omega)
      rw [hsz] at hst
      have hAR : AR F1 H1 h2 w d ts a.tmps := ⟨hA.len, hA.lim, fun t => k1.pres _ _ _ (hA.val t)⟩
      have hgd : ∀ e, (l.set i cs2).getD e zl = if e = i then cs2 else l.getD e zl := by
        intro e
        simp only [List.getD_eq_getElem?_getD, List.getElem?_set]
        by_cases q : i = e
        · subst q; simp [hc1]
        · rw [if_neg q, if_neg (by omega)]
      have hsp := splice_len (l := us.toList) (m := (a.eval x).cells.toList) (off := i * sz) (n := sz) (by simpa using hsz) (by simp; omega)
      obtain ⟨F', H', us', k3, k4, k5, k6⟩ := ih (us := (a.eval x).cells.zipIdx.foldl (fun cs (p : Value × Nat) => cs.setIfInBounds (i * sz + p.2) p.1) us) k1.sr hAR hk (by
        rw [hst]
        refine ⟨by rw [hsp, List.length_set]; exact hr.1, fun u hu => ?_, fun e he => ?_, fun e j c u he hc hu => ?_⟩
        · rw [List.mem_append, List.mem_append] at hu
          rcases hu with (q | q) | q
          · exact hr.2.1 u (List.mem_of_mem_take q)
          · exact hones u q
          · exact hr.2.1 u (List.mem_of_mem_drop q)
        · show ((l.set i cs2).getD e zl).length = sz
          rw [hgd]
          split
          · exact hc2
          · exact hr.2.2.1 e (by simpa using he)
        · have hc : ((l.set i cs2).getD e zl)[j]? = some c := hc
          have hell : e < l.length := by simpa using he
          have hlen : ((l.set i cs2).getD e zl).length = sz := by
            rw [hgd]
            split
            · exact hc2
            · exact hr.2.2.1 e hell
          have hj : j < sz := by rw [← hlen]; exact (List.getElem?_eq_some_iff.1 hc).1
          rw [hgd] at hc
          rw [splice_get (by simpa using hsz) (by simp; omega)] at hu
          by_cases q : e = i
          · subst q
            rw [if_pos rfl] at hc
            rw [if_neg (by omega), if_pos (by omega), show e * sz + j - e * sz = j by omega] at hu
            have := k2.2 j (.c c) u (by simp [hc]) hu
            cases this with | c hv => exact hv
          · rw [if_neg q] at hc
            have hne : ¬ (i * sz ≤ e * sz + j ∧ e * sz + j < i * sz + sz) := by
              rintro ⟨g1, g2⟩
              rcases Nat.lt_or_gt_of_ne q with q | q
              · have := Nat.mul_le_mul_right sz (show e + 1 ≤ i by omega); rw [Nat.succ_mul] at this; omega
              · have := Nat.mul_le_mul_right sz (show i + 1 ≤ e by omega); rw [Nat.succ_mul] at this; omega
            have hu' : us.toList[e * sz + j]? = some u := by
              split at hu
              · exact hu
              · split at hu
                · exact absurd ⟨by omega, by omega⟩ hne
                · exact hu
            exact (hr.2.2.2 e j c u hell hc hu').mono k1.ext.sub k1.ext.fix)
      refine ⟨F', H', us', k1.trans k3, by rw [k4, List.length_set], ?_, k6⟩
      simp only [List.map_cons, Instr.fill, hsz]
      rw [if_neg (by simp; omega)]
      exact k5

inductive TrPartV (place : Nat → Option (Nat × Nat)) : Nat × Operand → Nat × Nat × Arg → Prop
  | mk {i off n : Nat} {x : Operand} {y : Arg} (hp : place i = some (off, n)) (hx : TrA x y) : TrPartV place (i, x) (off, n, y)
theorem partsV_sim {sz : Nat} {ps : List (Nat × Operand)} {qs : List (Nat × Arg × PT)} (hq : All2 TrPartS ps qs) (hA : AR F H h w d ts a.tmps) : ∀ {cs cs' : List O} {us : Array Value},
    partsV sz ts qs cs = some cs' → ROs F H h w (AOk d) cs us.toList →
    ∃ us', Instr.fill (fun i => some (i * sz, sz)) us (ps.map fun p => (p.1, a.eval p.2)) = some us' ∧ ROs F H h w (AOk d) cs' us'.toList := by
  induction hq with
  | nil => intro cs cs' us hf hr; simp only [partsV, Option.some.injEq] at hf; subst hf; exact ⟨us, rfl, hr⟩
  | @cons p q l m h1 t ih =>
    intro cs cs' us hf hr
    cases h1 with
    | @mk i x y sl hx =>
      simp only [partsV] at hf
      split at hf <;> try (cases hf; done)
      rename_i hc
      obtain ⟨hc1, hc0, hc2⟩ := hc
      have hro := hx.ro hA
      by_cases hu : rd ts y = .undef
      · rw [hu] at hc0; simp [O.cells, oneO] at hc0
      have hcl := hro.cells hu
      have hsz : (a.eval x).cells.size = sz := by rw [← hc1, ← Array.length_toList]; exact hcl.1
      have hus : us.size = cs.length := by rw [← Array.length_toList]; exact hr.1
      have hst := fill_step (cells := us) (vc := (a.eval x).cells) (off := i * sz) (by omega)
      obtain ⟨us', e1, e2⟩ := ih (us := (a.eval x).cells.zipIdx.foldl (fun cs (p : Value × Nat) => cs.setIfInBounds (i * sz + p.2) p.1) us) hf (by
        rw [hst, hsz]
        exact ((hr.take (i * sz)).append hcl).append (hr.drop (i * sz + sz)))
      refine ⟨us', ?_, e2⟩
      simp only [List.map_cons, Instr.fill, hsz]
      rw [if_neg (by simp; omega)]
      exact e1
end
end Go.Ab

/-! ## As11 -/
namespace Go.Ab
open Go.RowKit

inductive TrH (P : Program) : Op → HOp → Prop
  | nilMove {mu : Bool} {z : List C} : TrH P (.move (.const (.slice none 0 0))) (.nilArr mu z)
  | nilAssign {mu : Bool} {z : List C} : TrH P (.assign (.const (.slice none 0 0))) (.nilArr mu z)
  | alloc {t : TypeId} {inf : TypeInfo} {zv : Value} {zero : List O} {sl : PT} (hi : P.info? t = some inf) (hz : inf.zero = some zv) (hzr : All2 ZR zero zv.cells.toList) : TrH P (.alloc t) (.alloc zero sl)
  | box {t : TypeId} {n : Nat} {x : Operand} {x' : Arg} {sl : PT} (hx : TrA x x') : TrH P (.box t x) (.box n sl x')
  | buildSlice {t e : TypeId} {inf : TypeInfo} {zv : Value} {zl : List C} {n : Nat} {ps : Array (Nat × Operand)} {qs : List (Nat × Arg × PT)} (ht : P.underlying t = some (.slice e)) (hi : P.info? e = some inf) (hz : inf.zero = some zv) (hzr : All2 ZC zl zv.cells.toList)
      (hsz : inf.size = zl.length) (h0 : 0 < zl.length) (hn : n * zl.length ≤ 16777216) (hq : All2 TrPartS ps.toList qs) : TrH P (.buildSlice t n ps) (.buildSlice n zl.length zl qs)
  | makeSlice {t e : TypeId} {inf : TypeInfo} {zv : Value} {zl : List C} {x : Operand} {x' : Arg} (ht : P.underlying t = some (.slice e)) (hi : P.info? e = some inf) (hz : inf.zero = some zv) (hzr : All2 ZC zl zv.cells.toList)
      (hsz : inf.size = zl.length) (h0 : 0 < zl.length) (hb : 0 < inf.bytes) (hx : TrA x x') : TrH P (.makeSlice t x x) (.makeSlice zl.length inf.bytes zl x')
  | load {t : TypeId} {n : Option Nat} {x : Operand} {x' : Arg} (hp : PartOf P t n) (hx : TrA x x') : TrH P (.load t x) (.load n x')
  | store {t : TypeId} {inf : TypeInfo} {sl : PT} {x y : Operand} {x' y' : Arg} (hi : P.info? t = some inf) (hx : TrA x x') (hy : TrA y y') : TrH P (.store t x y) (.store inf.size sl x' y')
  | append {t t2 e e2 : TypeId} {inf : TypeInfo} {zv : Value} {zl : List C} {lim : Nat} {x y : Operand} {x' y' : Arg} (ht : P.underlying t = some (.slice e)) (ht2 : P.underlying t2 = some (.slice e2)) (hi : P.info? e = some inf) (hz : inf.zero = some zv)
      (h0 : 0 < inf.size) (hzc : zv.cells.size = inf.size) (hlim : lim * inf.bytes ≤ 140737488355328) (hl63 : lim ≤ 9223372036854775807) (hx : TrA x x') (hy : TrA y y') :
      TrH P (.call { callee := .builtin .append, args := #[x, y], argTypes := #[t, t2] }) (.append inf.size lim zl x' y')
  | slice {t e : TypeId} {inf : TypeInfo} {x : Operand} {lo hi : Option Operand} {x' : Arg} {lo' hi' : Option Arg} (ht : P.underlying t = some (.slice e)) (hi2 : P.info? e = some inf) (hx : TrA x x') (hlo : TrO lo lo') (hhi : TrO hi hi') :
      TrH P (.slice t x lo hi none) (.slice inf.size x' lo' hi' none)
  | clear {t e : TypeId} {inf : TypeInfo} {zv : Value} {zl : List C} {x : Operand} {x' : Arg} (ht : P.underlying t = some (.slice e)) (hi : P.info? e = some inf) (hz : inf.zero = some zv) (hzr : All2 ZC zl zv.cells.toList) (hx : TrA x x') :
      TrH P (.call { callee := .builtin .clear, args := #[x], argTypes := #[t] }) (.clear zl.length zl x')

section
variable {F : Fz} {H : Hs} {h h' : Heap} {w w' : World} {d i b : Nat} {ts : List O} {a : Act} {P : Program}

theorem run_slice_gen {t e : TypeId} {inf : TypeInfo} (ht : P.underlying t = some (.slice e)) (hi : P.info? e = some inf) {sa : Option Addr} {n cap l hh : Nat} {lo hi' : Option Value} (hb : (Instr.sliceBounds true n cap lo hi' none).run P w = .ok (l, hh, cap) w) :
    (Instr.sliceAt t (.slice sa n cap) lo hi' none).run P w = .ok (.slice (if cap = l then sa else sa.map (·.add (l * inf.size))) (hh - l) (cap - l)) w := by
  simp [Instr.sliceAt, Instr.slice, run_underlying ht, hb, sizeOf, typeInfo, hi]
theorem bounds_sim {α : Type} {lo hi : Option Operand} {lo' hi' : Option Arg} (hlo : TrO lo lo') (hhi : TrO hi hi') (hA : AR F H h w d ts a.tmps) {n cap : Nat} (hn : n ≤ cap) {f : Nat → Nat → Option α} {r : α}
    (hk : (sbound ts hi' n n fun hh => sbound ts lo' 0 hh fun l => f hh l) = some r) : ∃ l hh, f hh l = some r ∧ l ≤ hh ∧ hh ≤ n ∧ (Instr.sliceBounds true n cap (lo.map a.eval) (hi.map a.eval) none).run P w = .ok (l, hh, cap) w := by
  obtain ⟨hh, hk, q1, q2⟩ := sbound_sim (P := P) (w := w) hhi hA hk
  obtain ⟨l, hk, q3, q4⟩ := sbound_sim (P := P) (w := w) hlo hA hk
  refine ⟨l, hh, hk, by omega, by omega, ?_⟩
  unfold Instr.sliceBounds
  cases e5 : hi.map a.eval with
  | none =>
    rw [e5] at q1; simp only at q1; subst q1
    cases e6 : lo.map a.eval with
    | none => rw [e6] at q3; simp only at q3; subst q3; simp
    | some v => rw [e6] at q3; simp [q3 _ _ (Nat.le_refl _)]
  | some v5 =>
    rw [e5] at q1
    cases e6 : lo.map a.eval with
    | none => rw [e6] at q3; simp only at q3; subst q3; simp [q1 _ _ hn]
    | some v => rw [e6] at q3; simp [q1 _ _ hn, q3 _ _ (Nat.le_refl _)]

theorem sliceP_sim {α : Type} {t e : TypeId} {inf : TypeInfo} (ht : P.underlying t = some (.slice e)) (hi2 : P.info? e = some inf) {lo hi : Option Operand} {lo' hi' : Option Arg} (hlo : TrO lo lo') (hhi : TrO hi hi') (hA : AR F H h w d ts a.tmps)
    {o : O} {v : Value} (hr : RO F H h w (AOk d) o v) {k : O → Option α} {r : α} (hk : sliceP ts k inf.size o lo' hi' none = some r) :
    ∃ o' v', k o' = some r ∧ RO F H h w (AOk d) o' v' ∧ (Instr.sliceAt t v (lo.map a.eval) (hi.map a.eval) none).run P w = .ok v' w := by
  unfold sliceP at hk
  split at hk <;> try (cases hk; done)
  · rename_i n get
    obtain ⟨sa, cap, rfl, hn, hv⟩ := ro_slice hr
    simp only at hk
    split at hk <;> try (cases hk; done)
    rename_i hz
    obtain ⟨l, hh, hk, h1, h2, h3⟩ := bounds_sim (P := P) hlo hhi hA hn hk
    refine ⟨_, _, hk, .c ?_, run_slice_gen ht hi2 h3⟩
    by_cases h0 : hh - l = 0
    · rw [h0]; exact .slice0
    · cases hv with
      | slice0 => omega
      | @slice _ us b off _ _ sz hn hl hg hF hc h1' hv =>
        have hsz : sz = inf.size := by rw [← hg 0 (by omega)]; exact hz.resolve_right (by omega)
        subst hsz
        rw [if_neg (by omega)]
        simp only [Option.map_some, addr_add]
        have hle : l * inf.size + (hh - l) * inf.size ≤ n * inf.size := by rw [← Nat.add_mul]; exact Nat.mul_le_mul_right _ (by omega)
        refine .slice (us := (us.drop (l * inf.size)).take ((hh - l) * inf.size)) (sz := inf.size) (by omega) (by simp; omega) (fun i hi => ?_) (fun j hj => ?_) (fun j u hu => ?_) (fun j u hu => ?_) (fun i j c u hi hc' hu => ?_)
        · simp only [sSlice, hi, if_true]; exact hg _ (by omega)
        · rw [Nat.add_assoc]; exact hF _ (by omega)
        · rw [List.getElem?_take] at hu
          split at hu
          · rw [List.getElem?_drop] at hu; rw [Nat.add_assoc]; exact hc _ u hu
          · cases hu
        · rw [List.getElem?_take] at hu
          split at hu
          · rw [List.getElem?_drop] at hu; exact h1' _ u hu
          · cases hu
        · rw [List.getElem?_take] at hu
          split at hu
          · rw [List.getElem?_drop] at hu
            simp only [sSlice, hi, if_true] at hc'
            refine hv (l + i) j c u (by omega) hc' ?_
            rw [Nat.add_mul, Nat.add_assoc]; exact hu
          · cases hu
  · obtain ⟨sa, rfl⟩ := ro_nils hr
    simp only at hk
    obtain ⟨l, hh, hk, h1, h2, h3⟩ := bounds_sim (P := P) hlo hhi hA (Nat.le_refl 0) hk
    have hl : l = 0 := by omega
    have hhh : hh = 0 := by omega
    subst hl; subst hhh
    exact ⟨_, _, hk, .nils _, run_slice_gen ht hi2 h3⟩
  · rename_i dd i off n sz'
    obtain ⟨b, cap, off', rfl, hAd, hk2, hl, hn, ho⟩ := ro_vsl hr
    simp only at hk
    split at hk <;> try (cases hk; done)
    rename_i hz
    subst hz
    obtain ⟨l, hh, hk, h1, h2, h3⟩ := bounds_sim (P := P) hlo hhi hA hn hk
    refine ⟨_, _, hk, ?_, run_slice_gen ht hi2 h3⟩
    by_cases hcl : cap = l
    · rw [if_pos hcl]; exact .vsl hAd hk2 hl (by omega) (fun q => by omega)
    · rw [if_neg hcl]
      simp only [Option.map_some, addr_add]
      exact .vsl hAd hk2 hl (by omega) (fun q => by rw [ho (by omega)])

theorem run_buildSlice {t e : TypeId} {inf : TypeInfo} {zv : Value} {n : Nat} {parts : Array (Nat × Value)} {us : Array Value} (ht : P.underlying t = some (.slice e)) (hi : P.info? e = some inf) (hz : inf.zero = some zv) (hn : n * inf.size ≤ 16777216)
    (hf : Instr.fill (fun i => some (i * inf.size, inf.size)) (madeCells zv.cells (n * inf.size)) parts.toList = some us) :
    (Instr.buildSlice t n parts).run P w = .ok (.slice (some ⟨w.heap.size, 0, none⟩) n n) (w.alloc (.cells us e)) := by
  have hn' : ¬ (16777216 < n * inf.size) := by omega
  by_cases h0 : n * inf.size = 0
  · rw [h0] at hf
    have : madeCells zv.cells 0 = #[] := by simp [madeCells, Array.range_zero']
    rw [this] at hf
    simp [Instr.buildSlice, run_underlying ht, sizeOf, typeInfo, hi, h0, Array.range_zero', hf, newRow]
  · simp only [madeCells] at hf
    simp [Instr.buildSlice, run_underlying ht, sizeOf, typeInfo, hi, hz, zeroValue, hn', h0, hf, newRow]

theorem made_ros {A : Nat → Nat → Prop} {zl : List C} {zc : Array Value} (hzr : All2 ZC zl zc.toList) (n : Nat) : ROs F H h w A ((List.replicate n (zl.map O.c)).flatten) (madeCells zc (n * zl.length)).toList := by
  have hm := made_row (F := F) (w := w) hzr n
  refine ⟨by rw [hm.1]; simp, fun j c u hc hu => ?_⟩
  have hj : j < n * zl.length := by rw [← hm.1]; exact (List.getElem?_eq_some_iff.1 hu).1
  have h0 : 0 < zl.length := by rcases Nat.eq_zero_or_pos zl.length with q | q; (rw [q] at hj; simp at hj); exact q
  have he : j / zl.length < n := Nat.div_lt_of_lt_mul (by rw [Nat.mul_comm]; exact hj)
  have hmod : j % zl.length < zl.length := Nat.mod_lt _ h0
  have hj2 : j / zl.length * zl.length + j % zl.length = j := by rw [Nat.mul_comm]; exact Nat.div_add_mod j _
  have hfl : ∀ (m q p : Nat), q < m → p < zl.length → ((List.replicate m (zl.map O.c)).flatten)[q * zl.length + p]? = (zl[p]?).map O.c := by
    intro m
    induction m with
    | zero => intro q p hq; omega
    | succ m ih =>
      intro q p hq hp
      rw [List.replicate_succ, List.flatten_cons]
      cases q with
      | zero => rw [Nat.zero_mul, Nat.zero_add, List.getElem?_append_left (by simpa using hp)]; simp
      | succ q =>
        rw [List.getElem?_append_right (by simp [Nat.succ_mul]; omega), show (q + 1) * zl.length + p - (zl.map O.c).length = q * zl.length + p by simp [Nat.succ_mul]; omega]
        exact ih q p (by omega) hp
  have := hfl n (j / zl.length) (j % zl.length) he hmod
  rw [hj2, hc] at this
  obtain ⟨c2, e2, e3⟩ := Option.map_eq_some_iff.1 this.symm
  subst e3
  exact .c (hm.2.2.2 (j / zl.length) (j % zl.length) c2 u he e2 (by rw [hj2]; exact hu))

theorem heap_sim {α : Type} {op : Op} {hop : HOp} {o : Oper} {E : Env} {base : Nat} {g : G} {s : St} {k : O → St → Option α} {r : α} (ht : TrH P op hop) (ho : o.op = op) (S : SR F H s.fr w) (hA : AR F H s.fr w d ts a.tmps) (hk : heapSem E d base g ts s k hop = some r) :
    ∃ o' s' F' H' v w', k o' s' = some r ∧ s'.lp = s.lp ∧ Stp F H s.fr w F' H' s'.fr w' ∧ RO F' H' s'.fr w' (AOk d) o' v ∧ ((execOp a.eval o).run P w = .ok (.value v) w' ∨ (v = undef ∧ (execOp a.eval o).run P w = .ok .skip w')) := by
  cases ht with
  | @nilMove mu z =>
    simp only [heapSem] at hk
    split at hk <;> try (cases hk; done)
    rename_i hf
    obtain ⟨H', k1, k2⟩ := lay_nil (z := z) mu S hf (sa := none)
    exact ⟨_, _, F, H', _, w, hk, rfl, k1, k2, .inl (by simp [execOp, ho, show a.eval (.const (.slice none 0 0)) = .slice none 0 0 from rfl])⟩
  | @nilAssign mu z =>
    simp only [heapSem] at hk
    split at hk <;> try (cases hk; done)
    rename_i hf
    obtain ⟨H', k1, k2⟩ := lay_nil (z := z) mu S hf (sa := none)
    exact ⟨_, _, F, H', _, w, hk, rfl, k1, k2, .inl (by simp [execOp, ho, show a.eval (.const (.slice none 0 0)) = .slice none 0 0 from rfl])⟩
  | @alloc t inf zv zero sl hi hz hzr =>
    simp only [heapSem] at hk
    obtain ⟨s', F', H', h1, h2, h3, h4⟩ := lay_vars (us := zv.cells) (t := t) S (ROs.zero hzr) hk
    exact ⟨_, s', F', H', _, _, h1, h2, h3, h4, .inl (by simp [execOp, ho, Instr.alloc, zeroValue, typeInfo, hi, hz, newVar, newRow])⟩
  | @box t n x x' sl hx =>
    simp only [heapSem] at hk
    split at hk <;> try (cases hk; done)
    rename_i hc
    obtain ⟨hc1, hc2, hc3⟩ := hc
    have hro := hx.ro hA
    by_cases hu : rd ts x' = .undef
    · rw [hu] at hc2; simp [O.cells, oneO] at hc2
    obtain ⟨s', F', H', h1, h2, h3, h4⟩ := lay_vars (us := (a.eval x).cells) (t := t) S ((hro.cells hu).depth hc3) hk
    exact ⟨_, s', F', H', _, _, h1, h2, h3, h4, .inl (by simp [execOp, ho, Instr.box, newVar, newRow])⟩
  | @buildSlice t e inf zv zl n ps qs ht hi hz hzr hsz h0 hn hq =>
    have hzs : zv.cells.size = zl.length := by rw [← Array.length_toList]; exact hzr.len
    simp only [heapSem] at hk
    split at hk
    · rename_i l h1 e1
      split at hk <;> try (cases hk; done)
      rename_i hf
      have hm := made_row (F := F) (w := w) hzr n
      obtain ⟨F1, H1, us', k1, k2, k3, k4⟩ := partsS_sim (a := a) hq (us := madeCells zv.cells (n * zl.length)) S hA e1 (by
        simp only [List.length_replicate]
        have : ∀ i, i < n → (List.replicate n zl).getD i zl = zl := fun i hi => by rw [List.getD_eq_getElem?_getD, List.getElem?_replicate]; split <;> rfl
        exact ⟨hm.1, hm.2.1, fun i hi => by show ((List.replicate n zl).getD i zl).length = _; rw [this i hi], fun i j c u hi hc hu => hm.2.2.2 i j c u hi (by have hc : ((List.replicate n zl).getD i zl)[j]? = some c := hc; rw [this i hi] at hc; exact hc) hu⟩)
      rw [List.length_replicate] at k2
      rw [k2] at k4
      have hrow := RowL.rowC (rest := []) h0 k4
      simp only [List.append_nil, Array.toArray_toList] at hrow
      have hus : us'.size = n * zl.length := by rw [← Array.length_toList]; exact k4.1
      obtain ⟨F2, H2, q1, q2⟩ := lay_row (w' := w.alloc (.cells us' e)) (us := us') (t := e) (cap := n) (an := g.an) (base := base) false k1.sr hf rfl rfl rfl rfl (get := sList zl l) hrow hus (Nat.le_refl n) (by
        have : n * 1 ≤ n * zl.length := Nat.mul_le_mul_left _ h0
        omega)
      simp only [Bool.false_eq_true, if_false] at q1 q2
      have e3 : Instr.fill (fun i => some (i * inf.size, inf.size)) (madeCells zv.cells (n * inf.size)) (ps.map fun p => (p.1, a.eval p.2)).toList = some us' := by rw [hsz]; simpa using k3
      have := run_buildSlice (w := w) ht hi hz (by rw [hsz]; exact hn) e3
      refine ⟨_, _, F2, H2, _, _, hk, rfl, k1.trans q1, q2, .inl ?_⟩
      simp only [execOp, ho]
      simp [this]
    · split at hk <;> try (cases hk; done)
      rename_i cs e1
      split at hk <;> try (cases hk; done)
      rename_i hc
      obtain ⟨hc1, hf⟩ := hc
      have hm := made_row (F := F) (w := w) hzr n
      have hinit : ROs F H s.fr w (AOk d) ((List.replicate n (zl.map O.c)).flatten) (madeCells zv.cells (n * zl.length)).toList := made_ros hzr n
      obtain ⟨us', k3, k4⟩ := partsV_sim (a := a) hq hA e1 hinit
      obtain ⟨fg, fd, fi⟩ := fresh_getB hf
      have st := S.new hf (w' := w.alloc (.cells us' e)) (us := us') (t := e) rfl rfl rfl rfl (b' := .vars cs) (m := 0) ⟨rfl, by rw [← k4.1]; simp, fun j o u hoo hu => (k4.depth hc1).2 j o u hoo (by simpa using hu)⟩
      have gB := getB_setB s.fr d (base + g.an) (.vars cs) fd fi d (base + g.an)
      have gL := loc_setL H d (base + g.an) (some w.heap.size) (by rw [S.len]; exact fd) (by rw [S.lens]; exact fi) d (base + g.an)
      simp only [and_self, if_true] at gB gL
      have e3 : Instr.fill (fun i => some (i * inf.size, inf.size)) (madeCells zv.cells (n * inf.size)) (ps.map fun p => (p.1, a.eval p.2)).toList = some us' := by rw [hsz]; simpa using k3
      have := run_buildSlice (w := w) ht hi hz (by rw [hsz]; exact hn) e3
      refine ⟨_, _, _, _, _, _, hk, rfl, st, .vsl (Nat.le_refl d) (by show isVars (getB (setB s.fr d (base + g.an) (.vars cs)) d (base + g.an)) = true; rw [gB]; rfl) gL (Nat.le_refl n) (fun _ => rfl), .inl ?_⟩
      simp only [execOp, ho]
      simp [this]
  | @makeSlice t e inf zv zl x x' ht hi hz hzr hsz h0 hb hx =>
    have hro := hx.ro hA
    simp only [heapSem] at hk
    split at hk <;> try (cases hk; done)
    rename_i kd n e1
    split at hk <;> try (cases hk; done)
    rename_i hc
    obtain ⟨hc1, hc2, hf⟩ := hc
    rw [e1] at hro
    have hro := ro_int hro
    have hn63 : n * 1 ≤ n * (inf.bytes : Int) := Int.mul_le_mul_of_nonneg_left (by omega) hc1
    have hbytes : (inf.bytes : Int) * n ≤ 281474976710656 := by rw [Int.mul_comm]; omega
    have hg := run_make (P := P) w t e inf zv ht hi hz kd kd n n hc1 (Int.le_refl _) hbytes (by omega)
    have hm := made_row (F := F) (w := w) hzr n.toNat
    have hrow := RowL.rowC (rest := []) h0 hm
    simp only [List.append_nil, Array.toArray_toList] at hrow
    rw [hsz] at hg
    obtain ⟨F2, H2, q1, q2⟩ := lay_row (w' := w.alloc (.cells (madeCells zv.cells (n.toNat * zl.length)) e)) (us := madeCells zv.cells (n.toNat * zl.length)) (t := e) (cap := n.toNat) (an := g.an) (base := base) true S hf rfl rfl rfl rfl hrow (by simp [madeCells]) (Nat.le_refl _) (by omega)
    simp only [if_true] at q1 q2
    refine ⟨_, _, F2, H2, _, _, hk, rfl, q1, q2, .inl ?_⟩
    simp only [execOp, ho, hro]
    simp [hg]
  | @load t n x x' hp hx =>
    simp only [heapSem] at hk
    obtain ⟨o', v', h1, h2, h3⟩ := load_sim hp S (hx.ro hA) hk
    exact ⟨o', s, F, H, v', w, h1, rfl, Stp.refl S, h3, .inl (by simp [execOp, ho, h2])⟩
  | @store t inf sl x y x' y' hi hx hy =>
    simp only [heapSem] at hk
    obtain ⟨s', F', H', w', h1, h2, h3, h4⟩ := store_sim hi S (hx.ro hA) (hy.ro hA) (.inr (.inr trivial)) hk
    exact ⟨_, s', F', H', undef, w', h1, h2, h3, .undef _, .inr ⟨rfl, by simp [execOp, ho, h4]⟩⟩
  | @append t t2 e e2 inf zv zl lim x y x' y' ht ht2 hi hz h0 hzc hlim hl63 hx hy =>
    simp only [heapSem] at hk
    obtain ⟨o', s', F', H', v', w', h1, h2, h3, h4, h5⟩ := append_sim (ty := o.type) ht ht2 hi hz rfl h0 hzc hlim hl63 S (hx.ro hA) (hy.ro hA) hk
    exact ⟨o', s', F', H', v', w', h1, h2, h3, h4, .inl (by simp [execOp, ho, resolve, invoke, builtin, h5])⟩
  | @slice t e inf x lo hi x' lo' hi' ht hi2 hx hlo hhi =>
    have hro := hx.ro hA
    simp only [heapSem] at hk
    split at hk
    · rename_i e1
      rw [e1] at hro
      obtain ⟨o', v', h1, h2, h3⟩ := sliceP_sim ht hi2 hlo hhi hA hro hk
      exact ⟨o', s, F, H, v', w, h1, rfl, Stp.refl S, h2, .inl (by simp [execOp, ho, h3])⟩
    · split at hk <;> try (cases hk; done)
      rename_i o1 h1 e1
      obtain ⟨F1, H1, k1, k2⟩ := restO_sim S hro e1
      have hAR : AR F1 H1 h1 w d ts a.tmps := ⟨hA.len, hA.lim, fun t => k1.pres _ _ _ (hA.val t)⟩
      obtain ⟨o', v', h1, h2, h3⟩ := sliceP_sim ht hi2 hlo hhi hAR k2 hk
      exact ⟨o', _, F1, H1, v', w, h1, rfl, k1, h2, .inl (by simp [execOp, ho, h3])⟩
  | @clear t e inf zv zl x x' ht hi hz hzr hx =>
    have hro := hx.ro hA
    simp only [heapSem] at hk
    split at hk <;> try (cases hk; done)
    rename_i dd i off n sz' e1
    split at hk <;> try (cases hk; done)
    rename_i hsz
    subst hsz
    split at hk <;> try (cases hk; done)
    rename_i cs e2
    split at hk <;> try (cases hk; done)
    rename_i hle
    rw [e1] at hro
    obtain ⟨b, cap, off', hv, hAd, hk2, hl, hn, hoff⟩ := ro_vsl hro
    have hb := S.blk dd i
    rw [e2] at hb
    obtain ⟨b2, us, t2, q1, q2, q3, q4, q5⟩ := hb
    rw [hl] at q1; cases q1
    have hlz : zv.cells.size = zl.length := by rw [← Array.length_toList]; exact hzr.len
    have hmr := made_row (F := F) (w := w) hzr n
    have hzs : ((List.replicate n (zl.map O.c)).flatten).length = n * zl.length := by simp
    have hzv := made_ros (F := F) (H := H) (h := s.fr) (w := w) (A := AOk dd) hzr n
    have hpl : (us.toList.take off ++ (madeCells zv.cells (n * zl.length)).toList ++ us.toList.drop (off + n * zl.length)).length = us.size := by rw [splice_len hmr.1 (by simp; omega)]; simp
    have hcl2 : (cs.take off ++ (List.replicate n (zl.map O.c)).flatten ++ cs.drop (off + n * zl.length)).length = cs.length := splice_len hzs hle
    have pt := S.put e2 hl q2 (us' := (us.toList.take off ++ (madeCells zv.cells (n * zl.length)).toList ++ us.toList.drop (off + n * zl.length)).toArray) (cs' := cs.take off ++ (List.replicate n (zl.map O.c)).flatten ++ cs.drop (off + n * zl.length)) (by simpa using hpl) (by rw [hcl2, List.size_toArray, hpl]; exact q3) (fun j o u ho hu => by
      rw [splice_get hzs hle] at ho
      rw [List.getElem?_toArray, splice_get hmr.1 (by simp; omega)] at hu
      split at ho
      · rename_i hj; rw [if_pos hj] at hu; exact q5 j o u ho (by simpa using hu)
      · rename_i hj; rw [if_neg hj] at hu
        split at ho
        · rename_i hj2; rw [if_pos hj2] at hu; exact hzv.2 _ o u ho hu
        · rename_i hj2; rw [if_neg hj2] at hu; exact q5 j o u ho (by simpa using hu))
    refine ⟨_, _, F, _, .tuple #[], _, hk, rfl, pt, .c (.tuple (us := []) rfl (fun j c u hc => by simp at hc)), .inl ?_⟩
    by_cases h0 : n = 0
    · subst h0
      have hself : (us.toList.take off ++ (madeCells zv.cells (0 * zl.length)).toList ++ us.toList.drop (off + 0 * zl.length)).toArray = us := by
        rw [← Array.toList_inj]; simp [madeCells, Array.range_zero']
      rw [hself, setRow_self w b us t2 _ q2]
      simp [execOp, ho, resolve, invoke, builtin, Builtin.clear_, hv, run_underlying ht]
    · have hst := run_storeCells_at P b off t2 (madeCells zv.cells (n * zl.length)).toList 0 us w q2 (by rw [hmr.1]; simp; omega) hmr.2.1
      rw [hmr.1] at hst
      simp only [Nat.add_zero] at hst
      have hzc : Builtin.zeroCells zv.cells n = madeCells zv.cells (n * zl.length) := by rw [← hlz]; rfl
      rw [← hzc] at hst ⊢
      rw [hoff (by omega)] at hv
      cases n with
      | zero => exact absurd rfl h0
      | succ n => simp [execOp, ho, resolve, invoke, builtin, Builtin.clear_, hv, run_underlying ht, zeroValue, typeInfo, hi, hz, hst]
end
end Go.Ab
