/- What an operation does, apart from what comes behind it; what it looks at. What an operation on memory comes to, and what it writes. The effect of an operation that stands beside others in open order. Operations in whatever order: what comes of it is what comes of it in the order of the text. A region's operations in whatever order its constraints leave open. One operation of a region, in the model and in the machine. A part of memory handed to a call, and laid back. Calls, in the model and in the machine. The library's Clone of slices, in the model and in the machine. Regions, in the model and in the machine. Regions that draw their order. Regions as code. Code, in the model and in the machine. Loops, and what they let go. Results of functions. Functions: their frames, their results, and that all of it is sound. Calls that share memory with their caller; and that all runs are sound. No statement of the seat is proved here. -/
import Derived.Test.YtjbipegbpeefkaaGreatMa
import Derived.Test.YtjbipegbpeefkaaGreatMb
import Derived.OrdersIn
import Derived.Lib.SliceRun

set_option linter.unusedVariables false
set_option linter.unusedSimpArgs false
/-! ## As12 -/
namespace Go.Ab

def POp.args : POp → List Arg
  | .move x => [x]
  | .pick c a b => [c, a, b]
  | .build _ parts => parts.map (·.2.2)
  | .nilCheck x => [x]
  | .bin _ x y => [x, y]
  | .eqBool _ x y => [x, y]
  | .eqNil _ x => [x]
  | .eqAgg _ _ x y => [x, y]
  | .not x => [x]
  | .neg x => [x]
  | .conv _ x => [x]
  | .field _ _ x => [x]
  | .fieldAddr _ x => [x]
  | .index _ _ _ x i => [x, i]
  | .sindex x i => [x, i]
  | .indexAddr _ x i => [x, i]
  | .indexAddrArr _ _ x i => [x, i]
  | .extract x _ => [x]
  | .makeFunc _ a b => a ++ b
  | .len x => [x]
  | .alen _ => []
  | .minmax _ x xs => x :: xs
  | .sliceArr _ _ x lo hi mx => x :: (lo.toList ++ hi.toList ++ mx.toList)

section
variable {α : Type} {ts ts2 : List O}

theorem bound_nat (len : Nat) (i : O) (f : Nat → Option O) (k : O → Option α) : bound len i (fun j => (f j).bind k) = (bound len i f).bind k := by
  unfold bound
  split
  · split <;> rfl
  · rfl
theorem bound_congr {len : Nat} {i : O} {f f' : Nat → Option α} (h : ∀ j, f j = f' j) : bound len i f = bound len i f' := by
  unfold bound
  split
  · split
    · exact h _
    · rfl
  · rfl
theorem sbound_nat {β : Type} (x : Option Arg) (a b : Nat) (f : Nat → Option β) (k : β → Option α) : sbound ts x a b (fun j => (f j).bind k) = (sbound ts x a b f).bind k := by
  unfold sbound
  split
  · rfl
  · split
    · split <;> rfl
    · rfl
theorem sbound_fun {x : Option Arg} {a b : Nat} {f f' : Nat → Option α} (h : ∀ j, f j = f' j) : sbound ts x a b f = sbound ts x a b f' := by
  rw [show f = f' from funext h]
theorem sbound_congr {x : Option Arg} (hx : ∀ y ∈ x.toList, rd ts y = rd ts2 y) (a b : Nat) (f : Nat → Option α) : sbound ts x a b f = sbound ts2 x a b f := by
  unfold sbound
  cases x with
  | none => rfl
  | some y => simp only [hx y (by simp)]
theorem minmaxF_nat (mx : Bool) (k : O → Option α) : ∀ (l : List Arg) (kd : IntKind) (a : Int), minmaxF ts k mx kd a l = (minmaxF ts some mx kd a l).bind k := by
  intro l
  induction l with
  | nil => intro kd a; rfl
  | cons x l ih =>
    intro kd a
    simp only [minmaxF]
    split
    · exact ih _ _
    · rfl
theorem minmaxF_congr (mx : Bool) (k : O → Option α) : ∀ (l : List Arg) (kd : IntKind) (a : Int), (∀ x ∈ l, rd ts x = rd ts2 x) → minmaxF ts k mx kd a l = minmaxF ts2 k mx kd a l := by
  intro l
  induction l with
  | nil => intro kd a _; rfl
  | cons x l ih =>
    intro kd a h
    simp only [minmaxF, h x (by simp)]
    split
    · exact ih _ _ (fun y hy => h y (by simp [hy]))
    · rfl
theorem fillCells_congr : ∀ (l : List (Nat × Nat × Arg)) (cs : List O), (∀ x ∈ l.map (·.2.2), rd ts x = rd ts2 x) → fillCells ts l cs = fillCells ts2 l cs := by
  intro l
  induction l with
  | nil => intro cs _; rfl
  | cons p l ih =>
    obtain ⟨off, n, a⟩ := p
    intro cs h
    have h1 := h a (by simp)
    simp only [fillCells, h1]
    split
    · exact ih _ (fun y hy => h y (by simp at hy ⊢; exact .inr hy))
    · rfl
theorem sliceP_nat {β : Type} (sz : Nat) (x : O) (lo hi mx : Option Arg) (f : O → β) (k : β → Option α) : sliceP ts (fun v => k (f v)) sz x lo hi mx = (sliceP ts (fun v => some (f v)) sz x lo hi mx).bind k := by
  unfold sliceP
  split
  · cases mx with
    | none =>
      simp only
      split
      · rw [← sbound_nat]
        refine sbound_fun fun h => ?_
        rw [← sbound_nat]
        exact sbound_fun fun l => rfl
      · rfl
    | some _ => rfl
  · cases mx with
    | none =>
      simp only
      rw [← sbound_nat]
      refine sbound_fun fun h => ?_
      rw [← sbound_nat]
      exact sbound_fun fun l => rfl
    | some _ => rfl
  · cases mx with
    | none =>
      simp only
      split
      · rw [← sbound_nat]
        refine sbound_fun fun h => ?_
        rw [← sbound_nat]
        exact sbound_fun fun l => rfl
      · rfl
    | some _ => rfl
  · rfl
theorem sliceA_nat (len sz : Nat) (x : O) (lo hi mx : Option Arg) (k : O → Option α) : sliceA ts k len sz x lo hi mx = (sliceA ts some len sz x lo hi mx).bind k := by
  unfold sliceA
  split
  · cases mx with
    | none =>
      simp only
      rw [← sbound_nat]
      refine sbound_fun fun h => ?_
      rw [← sbound_nat]
      exact sbound_fun fun l => rfl
    | some _ => rfl
  · rfl
theorem sliceP_congr {sz : Nat} {x : O} {lo hi mx : Option Arg} (h : ∀ y ∈ lo.toList ++ hi.toList ++ mx.toList, rd ts y = rd ts2 y) (k : O → Option α) : sliceP ts k sz x lo hi mx = sliceP ts2 k sz x lo hi mx := by
  have h1 : ∀ y ∈ lo.toList, rd ts y = rd ts2 y := fun y hy => h y (by simp at hy ⊢; exact .inl hy)
  have h2 : ∀ y ∈ hi.toList, rd ts y = rd ts2 y := fun y hy => h y (by simp at hy ⊢; exact .inr (.inl hy))
  unfold sliceP
  simp only [sbound_congr h1, sbound_congr h2]
theorem sliceA_congr {len sz : Nat} {x : O} {lo hi mx : Option Arg} (h : ∀ y ∈ lo.toList ++ hi.toList ++ mx.toList, rd ts y = rd ts2 y) (k : O → Option α) : sliceA ts k len sz x lo hi mx = sliceA ts2 k len sz x lo hi mx := by
  have h1 : ∀ y ∈ lo.toList, rd ts y = rd ts2 y := fun y hy => h y (by simp at hy ⊢; exact .inl hy)
  have h2 : ∀ y ∈ hi.toList, rd ts y = rd ts2 y := fun y hy => h y (by simp at hy ⊢; exact .inr (.inl hy))
  unfold sliceA
  simp only [sbound_congr h1, sbound_congr h2]

theorem pureSem_congr (op : POp) (k : O → Option α) (h : ∀ x ∈ op.args, rd ts x = rd ts2 x) : pureSem ts k op = pureSem ts2 k op := by
  cases op <;> simp only [POp.args, List.mem_cons, List.not_mem_nil, or_false, forall_eq_or_imp, forall_eq] at h
  case build zero parts => simp only [pureSem, fillCells_congr parts zero h]
  case makeFunc f a b =>
    have ha : a.map (rd ts) = a.map (rd ts2) := List.map_congr_left fun x hx => h x (by simp [hx])
    have hb : b.map (rd ts) = b.map (rd ts2) := List.map_congr_left fun x hx => h x (by simp [hx])
    simp only [pureSem, ha, hb]
  case alen n => rfl
  case minmax mx x xs =>
    simp only [pureSem, h.1]
    split
    · exact minmaxF_congr _ _ _ _ _ h.2
    · rfl
  case sliceArr len sz x lo hi mx => simp only [pureSem, h.1, sliceA_congr h.2]
  all_goals simp only [pureSem, h]

theorem pureSem_nat (op : POp) (k : O → Option α) : pureSem ts k op = (pureSem ts some op).bind k := by
  cases op
  case minmax mx x xs =>
    simp only [pureSem]
    split
    · exact minmaxF_nat _ _ _ _ _
    · rfl
  case sliceArr len sz x lo hi mx => simp only [pureSem]; exact sliceA_nat _ _ _ _ _ _ _
  case index len sz n x i =>
    simp only [pureSem]
    split
    · rw [← bound_nat]; exact bound_congr fun j => by split <;> rfl
    · rfl
  case indexAddr sz x i =>
    simp only [pureSem]
    split
    · rw [← bound_nat]; exact bound_congr fun j => by split <;> rfl
    · split
      · rw [← bound_nat]; exact bound_congr fun j => rfl
      · rfl
    · split
      · rw [← bound_nat]; exact bound_congr fun j => rfl
      · rfl
    · rfl
  case indexAddrArr len sz x i =>
    simp only [pureSem]
    split
    · rw [← bound_nat]; exact bound_congr fun j => rfl
    · rw [← bound_nat]; exact bound_congr fun j => rfl
    · rw [← bound_nat]; exact bound_congr fun j => rfl
    · rfl
  case bin op x y =>
    simp only [pureSem]
    split
    · cases op <;> simp only [ofBool] <;> (repeat' split) <;> rfl
    · rfl
  all_goals (simp only [pureSem] <;> (repeat' split) <;> rfl)
end

/-! ### Operations on memory -/
section
variable {α : Type} {E : Env} {d base : Nat} {g : G} {ts ts2 : List O} {s : St}

theorem partsS_congr {ok : Bool} {sz : Nat} : ∀ (l : List (Nat × Arg × PT)) (cs : List (List C)) (h : Heap), (∀ x ∈ l.map (·.2.1), rd ts x = rd ts2 x) → partsS ok sz ts l cs h = partsS ok sz ts2 l cs h := by
  intro l
  induction l with
  | nil => intro cs h _; rfl
  | cons p l ih =>
    obtain ⟨i, a, sl⟩ := p
    intro cs h hh
    have h1 := hh a (by simp)
    have h2 : ∀ cs h, partsS ok sz ts l cs h = partsS ok sz ts2 l cs h := fun cs h => ih cs h (fun y hy => hh y (by simp at hy ⊢; exact .inr hy))
    simp only [partsS, h1, h2]
theorem partsV_congr {sz : Nat} : ∀ (l : List (Nat × Arg × PT)) (cs : List O), (∀ x ∈ l.map (·.2.1), rd ts x = rd ts2 x) → partsV sz ts l cs = partsV sz ts2 l cs := by
  intro l
  induction l with
  | nil => intro cs _; rfl
  | cons p l ih =>
    obtain ⟨i, a, sl⟩ := p
    intro cs hh
    have h1 := hh a (by simp)
    have h2 : ∀ cs, partsV sz ts l cs = partsV sz ts2 l cs := fun cs => ih cs (fun y hy => hh y (by simp at hy ⊢; exact .inr hy))
    simp only [partsV, h1, h2]
theorem restArgs_congr {ok : Bool} : ∀ (l : List (Arg × PT)) (h : Heap), (∀ x ∈ l.map (·.1), rd ts x = rd ts2 x) → restArgs ok ts l h = restArgs ok ts2 l h := by
  intro l
  induction l with
  | nil => intro h _; rfl
  | cons p l ih =>
    obtain ⟨a, sl⟩ := p
    intro h hh
    have h1 := hh a (by simp)
    have h2 : ∀ h, restArgs ok ts l h = restArgs ok ts2 l h := fun h => ih h (fun y hy => hh y (by simp at hy ⊢; exact .inr hy))
    simp only [restArgs, h1, h2]
theorem snapArgs_congr : ∀ (l : List (Arg × Nat)) (h : Heap), (∀ x ∈ l.map (·.1), rd ts x = rd ts2 x) → snapArgs ts h l = snapArgs ts2 h l := by
  intro l
  induction l with
  | nil => intro h _; rfl
  | cons p l ih =>
    obtain ⟨a, n⟩ := p
    intro h hh
    have h1 := hh a (by simp)
    have h2 := ih h (fun y hy => hh y (by simp at hy ⊢; exact .inr hy))
    simp only [snapArgs, h1, h2]
theorem flatMap_congr' {β γ : Type} {f f' : β → List γ} : ∀ {l : List β}, (∀ x ∈ l, f x = f' x) → l.flatMap f = l.flatMap f' := by
  intro l
  induction l with
  | nil => intro _; rfl
  | cons x l ih => intro h; rw [List.flatMap_cons, List.flatMap_cons, h x (by simp), ih (fun y hy => h y (by simp [hy]))]
theorem fpR_congr {op : HOp} (h : ∀ x ∈ op.args, rd ts x = rd ts2 x) : fpR ts op = fpR ts2 op := flatMap_congr' fun x hx => by rw [h x hx]
theorem fpW_congr {op : HOp} (h : ∀ x ∈ op.args, rd ts x = rd ts2 x) : fpW d base g ts op = fpW d base g ts2 op := by
  unfold fpW
  congr 1
  cases op <;> simp only [HOp.args, List.mem_cons, List.not_mem_nil, or_false, forall_eq_or_imp, forall_eq] at h
  case store n sl a v => simp only [h]
  case append sz lim z x y => simp only [h]
  case callM f args =>
    refine flatMap_congr' fun x hx => ?_
    rcases List.mem_cons.1 hx with rfl | hx
    · rw [h.1]
    · rw [h.2 x hx]
  all_goals rfl
theorem heapSem_congr (op : HOp) (k : O → St → Option α) (h : ∀ x ∈ op.args, rd ts x = rd ts2 x) : heapSem E d base g ts s k op = heapSem E d base g ts2 s k op := by
  cases op <;> simp only [HOp.args, List.mem_cons, List.not_mem_nil, or_false, forall_eq_or_imp, forall_eq] at h
  case nilArr => rfl
  case alloc => rfl
  case makeMap => rfl
  case buildSlice n sz z parts => simp only [heapSem, partsS_congr parts _ _ h, partsV_congr parts _ h]
  case call f args =>
    obtain ⟨h1, h2⟩ := h
    have h3 : args.map (fun p => rd ts p.1) = args.map (fun p => rd ts2 p.1) := List.map_congr_left fun p hp => h2 _ (List.mem_map_of_mem hp)
    simp only [heapSem, h1, h3, restArgs_congr args _ h2]
  case callQ f args => simp only [heapSem, h.1, restArgs_congr args _ h.2]
  case callM f args =>
    have hw : fpW d base g ts (.callM f args) = fpW d base g ts2 (.callM f args) := fpW_congr (by
      intro x hx
      rcases List.mem_cons.1 hx with rfl | hx
      · exact h.1
      · exact h.2 x hx)
    simp only [heapSem, h.1, restArgs_congr args _ h.2, hw]
  case callS f args => simp only [heapSem, snapArgs_congr args _ h]
  case slice sz x lo hi mx =>
    simp only [heapSem, h.1]
    split
    · exact sliceP_congr h.2 _
    · split
      · exact sliceP_congr h.2 _
      · rfl
  all_goals simp only [heapSem, h]
end
end Go.Ab

/-! ## As13 -/
namespace Go.Ab

section
variable {α : Type} {E : Env} {d base : Nat} {g : G} {ts ts2 : List O} {s : St}

theorem heapSem_nat (op : HOp) (k : O → St → Option α) : heapSem E d base g ts s k op = (heapSem E d base g ts s (fun o s => some (o, s)) op).bind fun p => k p.1 p.2 := by
  cases op
  case slice sz x lo hi mx =>
    simp only [heapSem]
    split
    · exact sliceP_nat sz _ lo hi mx (fun v => (v, s)) (fun p => k p.1 p.2)
    · split
      · rename_i o h _
        exact sliceP_nat sz _ lo hi mx (fun v => (v, { s with fr := h })) (fun p => k p.1 p.2)
      · rfl
  case load n a => simp only [heapSem, loadAt]; (repeat' split) <;> rfl
  case store n sl a v => simp only [heapSem, storeAt]; (repeat' split) <;> rfl
  case append sz lim z x y => simp only [heapSem, appendAt]; (repeat' split) <;> rfl
  all_goals (simp only [heapSem] <;> (repeat' split) <;> rfl)

/-- What an operation on memory comes to. -/
def heapV (E : Env) (d base : Nat) (g : G) (ts : List O) (s : St) (op : HOp) : Option (O × St) := heapSem E d base g ts s (fun o s => some (o, s)) op
def pureV (ts : List O) (op : POp) : Option O := pureSem ts some op

/-! ### Memories that agree on some blocks -/
structure Agree (X : List (Nat × Nat)) (h h2 : Heap) : Prop where
  len : h2.length = h.length
  lens : ∀ d, (h2.getD d []).length = (h.getD d []).length
  get : ∀ x ∈ X, getB h2 x.1 x.2 = getB h x.1 x.2
theorem Agree.mono {X Y : List (Nat × Nat)} {h h2 : Heap} (a : Agree X h h2) (hy : ∀ x ∈ Y, x ∈ X) : Agree Y h h2 := ⟨a.len, a.lens, fun x hx => a.get x (hy x hx)⟩
theorem heap_ext {h h2 : Heap} (hl : h2.length = h.length) (hs : ∀ d, (h2.getD d []).length = (h.getD d []).length) (hg : ∀ d i, getB h2 d i = getB h d i) : h2 = h := by
  apply List.ext_getElem hl
  intro d hd1 hd2
  have e1 : h2.getD d [] = h2[d] := by rw [List.getD_eq_getElem?_getD, List.getElem?_eq_getElem hd1]; rfl
  have e2 : h.getD d [] = h[d] := by rw [List.getD_eq_getElem?_getD, List.getElem?_eq_getElem hd2]; rfl
  have hs' := hs d
  rw [e1, e2] at hs'
  apply List.ext_getElem hs'
  intro i hi1 hi2
  have := hg d i
  unfold getB at this
  rw [e1, e2] at this
  rw [List.getD_eq_getElem?_getD, List.getElem?_eq_getElem hi1, List.getD_eq_getElem?_getD, List.getElem?_eq_getElem hi2] at this
  exact this
theorem fresh_eq {h h2 : Heap} {d i : Nat} (hs : (h2.getD d []).length = (h.getD d []).length) (hg : getB h2 d i = getB h d i) : fresh h2 d i = fresh h d i := by
  unfold fresh
  unfold getB at hg
  simp only [List.getD_eq_getElem?_getD (l := h2.getD d []), List.getD_eq_getElem?_getD (l := h.getD d [])] at hg
  by_cases hi : i < (h.getD d []).length
  · rw [List.getElem?_eq_getElem hi, List.getElem?_eq_getElem (by omega)] at hg ⊢
    simp only [Option.getD_some] at hg
    rw [hg]
  · rw [List.getElem?_eq_none (by omega), List.getElem?_eq_none (by omega)]
theorem len_setsB (upd : List (Nat × Nat × Blk)) : ∀ h : Heap, (setsB h upd).length = h.length ∧ ∀ d, ((setsB h upd).getD d []).length = (h.getD d []).length := by
  induction upd with
  | nil => intro h; exact ⟨rfl, fun _ => rfl⟩
  | cons u l ih =>
    intro h
    obtain ⟨h1, h2⟩ := ih (setB h u.1 u.2.1 u.2.2)
    exact ⟨h1.trans (len_setB _ _ _ _), fun d => (h2 d).trans (lens_setB _ _ _ _ d)⟩
theorem getB_setB_ne {h : Heap} {d i d' i' : Nat} {b : Blk} (hne : ¬ (d' = d ∧ i' = i)) : getB (setB h d i b) d' i' = getB h d' i' := by
  by_cases hin : d < h.length ∧ i < (h.getD d []).length
  · rw [getB_setB h d i b hin.1 hin.2, if_neg hne]
  · unfold getB setB
    by_cases hd : d < h.length
    · have hi : (h.getD d []).length ≤ i := by
        rcases Nat.lt_or_ge i (h.getD d []).length with q | q
        · exact absurd ⟨hd, q⟩ hin
        · exact q
      have : (h.getD d []).set i b = h.getD d [] := List.set_eq_of_length_le hi
      rw [this]
      have : h.set d (h.getD d []) = h := by
        rw [List.getD_eq_getElem?_getD, List.getElem?_eq_getElem hd]; simp
      rw [this]
    · rw [List.set_eq_of_length_le (by omega)]
theorem getB_setsB_ne (upd : List (Nat × Nat × Blk)) : ∀ (h : Heap) {d i : Nat}, (∀ u ∈ upd, ¬ (d = u.1 ∧ i = u.2.1)) → getB (setsB h upd) d i = getB h d i := by
  induction upd with
  | nil => intro h d i _; rfl
  | cons u l ih =>
    intro h d i hn
    have := ih (setB h u.1 u.2.1 u.2.2) (d := d) (i := i) (fun v hv => hn v (by simp [hv]))
    exact this.trans (getB_setB_ne (hn u (by simp)))
/-- Blocks that are laid, over memories that have the same shape. -/
theorem getB_setB_cong {h h2 : Heap} {d i d' i' : Nat} {b : Blk} (hl : h2.length = h.length) (hs : ∀ d, (h2.getD d []).length = (h.getD d []).length) (he : (d' = d ∧ i' = i) ∨ getB h2 d' i' = getB h d' i') : getB (setB h2 d i b) d' i' = getB (setB h d i b) d' i' := by
  by_cases hne : d' = d ∧ i' = i
  · obtain ⟨rfl, rfl⟩ := hne
    by_cases hin : d' < h.length ∧ i' < (h.getD d' []).length
    · rw [getB_setB h _ _ b hin.1 hin.2, getB_setB h2 _ _ b (by omega) (by rw [hs]; exact hin.2)]; simp
    · have hn : getB (setB h d' i' b) d' i' = .none := by
        by_cases q : getB (setB h d' i' b) d' i' = .none
        · exact q
        · have := getB_in q; rw [len_setB, lens_setB] at this; exact absurd this hin
      have hn2 : getB (setB h2 d' i' b) d' i' = .none := by
        by_cases q : getB (setB h2 d' i' b) d' i' = .none
        · exact q
        · have := getB_in q; rw [len_setB, lens_setB, hl, hs] at this; exact absurd this hin
      rw [hn, hn2]
  · rw [getB_setB_ne hne, getB_setB_ne hne]; exact he.resolve_left hne
theorem getB_setsB_cong (upd : List (Nat × Nat × Blk)) : ∀ {h h2 : Heap} {d i : Nat}, h2.length = h.length → (∀ d, (h2.getD d []).length = (h.getD d []).length) → ((∃ u ∈ upd, d = u.1 ∧ i = u.2.1) ∨ getB h2 d i = getB h d i) → getB (setsB h2 upd) d i = getB (setsB h upd) d i := by
  induction upd with
  | nil =>
    intro h h2 d i _ _ he
    rcases he with ⟨u, hu, _⟩ | he
    · cases hu
    · exact he
  | cons u l ih =>
    intro h h2 d i hl hs he
    refine ih (by simp [len_setB, hl]) (fun d => by rw [lens_setB, lens_setB]; exact hs d) ?_
    by_cases hin : ∃ v ∈ l, d = v.1 ∧ i = v.2.1
    · exact .inl hin
    · refine .inr (getB_setB_cong hl hs ?_)
      rcases he with ⟨v, hv, hd⟩ | he
      · rcases List.mem_cons.1 hv with rfl | hv
        · exact .inl hd
        · exact absurd ⟨v, hv, hd⟩ hin
      · exact .inr he

/-! ### What the parts of an operation look at -/
theorem arrC_false {h h' : Heap} {d i n : Nat} {v : C} (e : arrC false h d i n = some (v, h')) : h' = h ∧ ∀ h2, getB h2 d i = getB h d i → arrC false h2 d i n = some (v, h2) := by
  unfold arrC at e
  split at e <;> try (cases e; done)
  · rename_i b
    split at e
    · cases e
      rename_i hn
      refine ⟨rfl, fun h2 hg => ?_⟩
      unfold arrC; rw [hg, b]; simp [hn]
    · split at e <;> cases e
      rename_i hn hn2
      refine ⟨rfl, fun h2 hg => ?_⟩
      unfold arrC; rw [hg, b]; simp [hn, hn2]
  · rename_i b
    split at e <;> cases e
    rename_i hn
    refine ⟨rfl, fun h2 hg => ?_⟩
    unfold arrC; rw [hg, b]; simp [hn]
theorem restCells_false {sl : PT} : ∀ {cs : List O} {j : Nat} {l : List O} {h h' : Heap}, restCells false sl j cs h = some (l, h') → h' = h ∧ ∀ h2, (∀ x ∈ cs.flatMap (refB 0), getB h2 x.1 x.2 = getB h x.1 x.2) → restCells false sl j cs h2 = some (l, h2) := by
  intro cs
  induction cs with
  | nil =>
    intro j l h h' e
    simp only [restCells, Option.some.injEq, Prod.mk.injEq] at e
    obtain ⟨rfl, rfl⟩ := e
    exact ⟨rfl, fun h2 _ => rfl⟩
  | cons o cs ih =>
    intro j l h h' e
    have plain : (∀ h' l2 h3, restCells false sl (j + 1) cs h' = some (l2, h3) → restCells false sl j (o :: cs) h' = some (o :: l2, h3)) → (∃ l2, restCells false sl (j + 1) cs h = some (l2, h') ∧ l = o :: l2) →
        h' = h ∧ ∀ h2, (∀ x ∈ (o :: cs).flatMap (refB 0), getB h2 x.1 x.2 = getB h x.1 x.2) → restCells false sl j (o :: cs) h2 = some (l, h2) := by
      rintro hq ⟨l2, e2, rfl⟩
      obtain ⟨k1, k2⟩ := ih e2
      exact ⟨k1, fun h2 hg => hq _ _ _ (k2 h2 (fun x hx => hg x (by rw [List.flatMap_cons]; exact List.mem_append_right _ hx)))⟩
    cases o with
    | nils =>
      simp only [restCells] at e
      split at e <;> try (cases e; done)
      rename_i z ez
      split at e <;> try (cases e; done)
      rename_i l2 h2' e2
      cases e
      obtain ⟨k1, k2⟩ := ih e2
      refine ⟨k1, fun h2 hg => ?_⟩
      simp only [restCells, ez, k2 h2 (fun x hx => hg x (by rw [List.flatMap_cons]; exact List.mem_append_right _ hx))]
    | arr dd ii sz n =>
      simp only [restCells] at e
      split at e <;> try (cases e; done)
      rename_i v2 h2' e1
      split at e <;> try (cases e; done)
      rename_i l2 h3' e2
      cases e
      obtain ⟨q1, q2⟩ := arrC_false e1
      subst q1
      obtain ⟨k1, k2⟩ := ih e2
      refine ⟨k1, fun h2 hg => ?_⟩
      simp only [restCells, q2 h2 (hg (dd, ii) (by simp [refB])), k2 h2 (fun x hx => hg x (by rw [List.flatMap_cons]; exact List.mem_append_right _ hx))]
    | _ =>
      refine plain (fun h' l2 h3 q => by simp only [restCells, q]) ?_
      simp only [restCells] at e
      split at e <;> try (cases e; done)
      rename_i l2 h2' e2
      cases e
      exact ⟨_, e2, rfl⟩
theorem refB_zero {o : O} {x : Nat × Nat} (hx : x ∈ refB 0 o) : x ∈ refB 9 o := by
  cases o <;> simp [refB] at hx ⊢ <;> exact hx
theorem refB_cells {o : O} {x : Nat × Nat} (hx : x ∈ o.cells.flatMap (refB 0)) : x ∈ refB 9 o := by
  have single : o.cells = [o] → x ∈ refB 9 o := by
    intro e
    rw [e] at hx
    simp at hx
    exact refB_zero hx
  cases o with
  | c v =>
    cases v with
    | agg cs =>
      obtain ⟨o, h1, h2⟩ := List.mem_flatMap.1 hx
      obtain ⟨c, _, rfl⟩ := List.mem_map.1 h1
      simp [refB] at h2
    | _ => exact single rfl
  | agg cs =>
    simp only [O.cells] at hx
    show x ∈ cs.flatMap (refB 8)
    obtain ⟨c, h1, h2⟩ := List.mem_flatMap.1 hx
    refine List.mem_flatMap.2 ⟨c, h1, ?_⟩
    cases c <;> simp [refB] at h2 ⊢ <;> exact h2
  | _ => exact single rfl
theorem restO_false {sl : PT} {o o' : O} {h h' : Heap} (e : restO false sl o h = some (o', h')) : h' = h ∧ ∀ h2, (∀ x ∈ refB 9 o, getB h2 x.1 x.2 = getB h x.1 x.2) → restO false sl o h2 = some (o', h2) := by
  cases o with
  | agg cs =>
    simp only [restO] at e
    split at e <;> try (cases e; done)
    rename_i l2 h2' e2
    cases e
    obtain ⟨k1, k2⟩ := restCells_false e2
    refine ⟨k1, fun h2 hg => ?_⟩
    simp only [restO, k2 h2 (fun x hx => hg x (refB_cells (o := .agg cs) hx))]
  | nils =>
    simp only [restO] at e
    split at e <;> try (cases e; done)
    rename_i z ez
    cases e
    exact ⟨rfl, fun h2 _ => by simp only [restO, ez]⟩
  | arr dd ii sz n =>
    simp only [restO] at e
    split at e <;> try (cases e; done)
    rename_i v2 h2' e1
    cases e
    obtain ⟨q1, q2⟩ := arrC_false e1
    subst q1
    exact ⟨rfl, fun h2 hg => by simp only [restO, q2 h2 (hg (dd, ii) (by simp [refB]))]⟩
  | _ =>
    simp only [restO, Option.some.injEq, Prod.mk.injEq] at e
    obtain ⟨rfl, rfl⟩ := e
    exact ⟨rfl, fun h2 _ => rfl⟩
theorem restArgs_false : ∀ {l : List (Arg × PT)} {os : List O} {h h' : Heap}, restArgs false ts l h = some (os, h') → h' = h ∧ ∀ h2, (∀ x ∈ (l.map (·.1)).flatMap (fun a => refB 9 (rd ts a)), getB h2 x.1 x.2 = getB h x.1 x.2) → restArgs false ts l h2 = some (os, h2) := by
  intro l
  induction l with
  | nil =>
    intro os h h' e
    simp only [restArgs, Option.some.injEq, Prod.mk.injEq] at e
    obtain ⟨rfl, rfl⟩ := e
    exact ⟨rfl, fun h2 _ => rfl⟩
  | cons p l ih =>
    obtain ⟨a, sl⟩ := p
    intro os h h' e
    simp only [restArgs] at e
    split at e <;> try (cases e; done)
    rename_i o1 h1 e1
    split at e <;> try (cases e; done)
    rename_i l2 h2' e2
    cases e
    obtain ⟨q1, q2⟩ := restO_false e1
    subst q1
    obtain ⟨k1, k2⟩ := ih e2
    refine ⟨k1, fun h2 hg => ?_⟩
    simp only [restArgs, q2 h2 (fun x hx => hg x (by simp only [List.map_cons, List.flatMap_cons]; exact List.mem_append_left _ hx)), k2 h2 (fun x hx => hg x (by simp only [List.map_cons, List.flatMap_cons]; exact List.mem_append_right _ hx))]
theorem content_false {z : List C} {o : O} {n : Nat} {get : Nat → List C} {h h' : Heap} (e : content false z h o = some (n, get, h')) : h' = h ∧ ∀ h2, (∀ x ∈ refB 9 o, getB h2 x.1 x.2 = getB h x.1 x.2) → content false z h2 o = some (n, get, h2) := by
  unfold content at e
  split at e <;> try (cases e; done)
  · cases e; exact ⟨rfl, fun h2 _ => rfl⟩
  · cases e; exact ⟨rfl, fun h2 _ => rfl⟩
  · split at e <;> try (cases e; done)
    rename_i e1
    cases e
    obtain ⟨q1, q2⟩ := arrC_false e1
    subst q1
    refine ⟨rfl, fun h2 hg => ?_⟩
    simp only [content]
    rw [q2 h2 (hg (_, _) (List.mem_singleton.2 rfl))]
theorem snapArgs_agree : ∀ {l : List (Arg × Nat)} {h h2 : Heap}, (∀ x ∈ (l.map (·.1)).flatMap (fun a => refB 9 (rd ts a)), getB h2 x.1 x.2 = getB h x.1 x.2) → snapArgs ts h2 l = snapArgs ts h l := by
  intro l
  induction l with
  | nil => intro h h2 _; rfl
  | cons p l ih =>
    obtain ⟨a, n⟩ := p
    intro h h2 hg
    have h1 := ih (h := h) (h2 := h2) (fun x hx => hg x (by simp only [List.map_cons, List.flatMap_cons]; exact List.mem_append_right _ hx))
    simp only [snapArgs, h1]
    cases e : rd ts a with
    | ref d i off =>
      have := hg (d, i) (by simp only [List.map_cons, List.flatMap_cons]; exact List.mem_append_left _ (by rw [e]; simp [refB]))
      simp only [this]
    | _ => rfl

/-- Blocks laid for nil slices. -/
theorem nilFix_eff {d' : Nat} : ∀ {sl : PT} {at_ : Nat} {cs l : List O} {h h' : Heap}, nilFix d' at_ sl cs h = some (l, h') →
    ∃ upd, h' = setsB h upd ∧ (∀ u ∈ upd, u.1 = d' ∧ at_ ≤ u.2.1 ∧ u.2.1 < at_ + sl.length) ∧
      ∀ h2, h2.length = h.length → (∀ d, (h2.getD d []).length = (h.getD d []).length) → (∀ j, at_ ≤ j → j < at_ + sl.length → getB h2 d' j = getB h d' j) → nilFix d' at_ sl cs h2 = some (l, setsB h2 upd) := by
  intro sl
  induction sl with
  | nil =>
    intro at_ cs l h h' e
    simp only [nilFix, Option.some.injEq, Prod.mk.injEq] at e
    obtain ⟨rfl, rfl⟩ := e
    exact ⟨[], rfl, fun u hu => by simp at hu, fun h2 _ _ _ => rfl⟩
  | cons p r ih =>
    obtain ⟨j, z⟩ := p
    intro at_ cs l h h' e
    simp only [nilFix] at e
    split at e
    · rename_i ej
      split at e <;> try (cases e; done)
      rename_i hf
      obtain ⟨upd, k1, k2, k3⟩ := ih e
      refine ⟨(d', at_, .arr z.length 0 fun _ => z) :: upd, k1, fun u hu => ?_, fun h2 q1 q2 q3 => ?_⟩
      · rcases List.mem_cons.1 hu with rfl | hu
        · exact ⟨rfl, Nat.le_refl _, by simp⟩
        · obtain ⟨a1, a2, a3⟩ := k2 u hu
          exact ⟨a1, by omega, by simp; omega⟩
      · have hf2 : fresh h2 d' at_ = true := by rw [fresh_eq (q2 d') (q3 at_ (Nat.le_refl _) (by simp))]; exact hf
        simp only [nilFix, ej, hf2, if_true]
        refine (k3 (setB h2 d' at_ (.arr z.length 0 fun _ => z)) (by simp [len_setB, q1]) (fun d => by rw [lens_setB, lens_setB]; exact q2 d) (fun jj a1 a2 => ?_))
        exact getB_setB_cong q1 q2 (.inr (q3 jj (by omega) (by simp; omega)))
    · rename_i ej
      obtain ⟨upd, k1, k2, k3⟩ := ih e
      refine ⟨upd, k1, fun u hu => ?_, fun h2 q1 q2 q3 => ?_⟩
      · obtain ⟨a1, a2, a3⟩ := k2 u hu
        exact ⟨a1, by omega, by simp; omega⟩
      · have := k3 h2 q1 q2 (fun jj a1 a2 => q3 jj (by omega) (by simp; omega))
        cases e0 : cs[j]? with
        | none => simp only [nilFix, e0]; exact this
        | some o =>
          cases o with
          | nils => exact absurd e0 ej
          | _ => simp only [nilFix, e0]; exact this
theorem partsS_false {sz : Nat} : ∀ {l : List (Nat × Arg × PT)} {cs cs' : List (List C)} {h h' : Heap}, partsS false sz ts l cs h = some (cs', h') → h' = h ∧ ∀ h2, (∀ x ∈ (l.map (·.2.1)).flatMap (fun a => refB 9 (rd ts a)), getB h2 x.1 x.2 = getB h x.1 x.2) → partsS false sz ts l cs h2 = some (cs', h2) := by
  intro l
  induction l with
  | nil =>
    intro cs cs' h h' e
    simp only [partsS, Option.some.injEq, Prod.mk.injEq] at e
    obtain ⟨rfl, rfl⟩ := e
    exact ⟨rfl, fun h2 _ => rfl⟩
  | cons p l ih =>
    obtain ⟨i, a, sl⟩ := p
    intro cs cs' h h' e
    simp only [partsS] at e
    split at e <;> try (cases e; done)
    rename_i c1 h1 e1
    split at e <;> try (cases e; done)
    rename_i c2 e2
    split at e <;> try (cases e; done)
    rename_i hc
    obtain ⟨q1, q2⟩ := restCells_false e1
    subst q1
    obtain ⟨k1, k2⟩ := ih e
    refine ⟨k1, fun h2 hg => ?_⟩
    have r1 := q2 h2 (fun x hx => hg x (by simp only [List.map_cons, List.flatMap_cons]; exact List.mem_append_left _ (refB_cells hx)))
    have r2 := k2 h2 (fun x hx => hg x (by simp only [List.map_cons, List.flatMap_cons]; exact List.mem_append_right _ hx))
    simp only [partsS, r1, e2]
    rw [if_pos hc]
    exact r2
end
end Go.Ab

/-! ## As14 -/
namespace Go.Ab

/-- How many blocks an operation may lay. -/
def HOp.cnt : HOp → Nat
  | .nilArr _ _ => 1
  | .alloc _ sl => 1 + sl.length
  | .box _ sl _ => 1 + sl.length
  | .buildSlice _ _ _ _ => 1
  | .makeSlice _ _ _ _ => 1
  | .store _ sl _ _ => sl.length
  | .append _ _ _ _ _ => 1
  | .clone _ _ _ _ => 1
  | .makeMap => 1
  | _ => 0
def upS (s : St) (upd : List (Nat × Nat × Blk)) : St := { s with fr := setsB s.fr upd }

section
variable {α : Type} {E : Env} {d base : Nat} {g : G} {ts ts2 : List O} {s : St}

theorem upS_nil (s : St) : upS s [] = s := rfl
theorem setsB_app (h : Heap) (u v : List (Nat × Nat × Blk)) : setsB h (u ++ v) = setsB (setsB h u) v := by simp [setsB]
theorem own_mem {op : HOp} {j : Nat} (hj : j < g.cnt) : (d, base + g.an + j) ∈ fpW d base g ts op := by
  unfold fpW
  exact List.mem_append_left _ (List.mem_map.2 ⟨j, List.mem_range.2 hj, rfl⟩)

theorem mask_agree (ids : List Nat) : ∀ (l l2 : List Blk) (j : Nat), l2.length = l.length → (∀ i, j + i ∈ ids → l2.getD i .none = l.getD i .none) → maskB j ids l2 = maskB j ids l := by
  intro l
  induction l with
  | nil => intro l2 j hl _; rw [List.eq_nil_of_length_eq_zero hl]
  | cons b l ih =>
    intro l2 j hl hg
    cases l2 with
    | nil => simp at hl
    | cons b2 l2 =>
      simp only [maskB]
      rw [ih l2 (j + 1) (by simpa using hl) (fun i hi => by have := hg (i + 1) (by rw [show j + (i + 1) = j + 1 + i by omega]; exact hi); simpa using this)]
      congr 1
      split
      · rename_i hc; simpa using hg 0 (by simpa using hc)
      · rfl

theorem eff {op : HOp} {o : O} {s' : St} (hal : g.alone = false) (hok : okOpen op = true) (hcnt : op.cnt ≤ g.cnt) (hk : heapV E d base g ts s op = some (o, s')) :
    ∃ upd, s' = upS s upd ∧ (∀ u ∈ upd, (u.1, u.2.1) ∈ fpW d base g ts op) ∧ ∀ s2 : St, Agree (fpR ts op ++ fpW d base g ts op) s.fr s2.fr → heapV E d base g ts s2 op = some (o, upS s2 upd) := by
  have hown : ∀ s2 : St, Agree (fpR ts op ++ fpW d base g ts op) s.fr s2.fr → ∀ j, j < g.cnt → getB s2.fr d (base + g.an + j) = getB s.fr d (base + g.an + j) :=
    fun s2 ag j hj => ag.get (d, base + g.an + j) (List.mem_append_right _ (own_mem hj))
  have hown0 : ∀ s2 : St, Agree (fpR ts op ++ fpW d base g ts op) s.fr s2.fr → 0 < g.cnt → fresh s2.fr d (base + g.an) = fresh s.fr d (base + g.an) :=
    fun s2 ag hj => fresh_eq (ag.lens d) (hown s2 ag 0 hj)
  have harg : ∀ s2 : St, Agree (fpR ts op ++ fpW d base g ts op) s.fr s2.fr → ∀ x ∈ op.args, ∀ y ∈ refB 9 (rd ts x), getB s2.fr y.1 y.2 = getB s.fr y.1 y.2 :=
    fun s2 ag x hx y hy => ag.get y (List.mem_append_left _ (List.mem_flatMap.2 ⟨x, hx, hy⟩))
  have hargs : ∀ s2 : St, Agree (fpR ts op ++ fpW d base g ts op) s.fr s2.fr → ∀ (l : List Arg), (∀ x ∈ l, x ∈ op.args) → ∀ y ∈ l.flatMap (fun a => refB 9 (rd ts a)), getB s2.fr y.1 y.2 = getB s.fr y.1 y.2 := by
    intro s2 ag l hl y hy
    obtain ⟨x, h1, h2⟩ := List.mem_flatMap.1 hy
    exact harg s2 ag x (hl x h1) y h2
  cases op with
  | call f args => simp [okOpen] at hok
  | sort x => simp [okOpen] at hok
  | clear sz z x => simp [okOpen] at hok
  | mapUpdate m i n v sl => simp [okOpen] at hok
  | nilArr mu z =>
    simp only [heapV, heapSem] at hk
    split at hk <;> cases hk
    rename_i hf
    refine ⟨[(d, base + g.an, (if mu = true then Blk.mar z.length 0 (fun _ => z) else Blk.arr z.length 0 (fun _ => z)))], rfl, fun u hu => ?_, fun s2 ag => ?_⟩
    · simp at hu; subst hu; exact own_mem (j := 0) hcnt
    · simp only [heapV, heapSem, hown0 s2 ag hcnt, hf, if_true]; rfl
  | makeMap =>
    simp only [heapV, heapSem] at hk
    split at hk <;> cases hk
    rename_i hf
    refine ⟨[(d, base + g.an, .map fun _ => none)], rfl, fun u hu => ?_, fun s2 ag => ?_⟩
    · simp at hu; subst hu; exact own_mem (j := 0) hcnt
    · simp only [heapV, heapSem, hown0 s2 ag hcnt, hf, if_true]; rfl
  | alloc zero sl =>
    simp only [HOp.cnt] at hcnt
    simp only [heapV, heapSem] at hk
    split at hk <;> try (cases hk; done)
    rename_i cs h e1
    split at hk <;> cases hk
    rename_i hf
    obtain ⟨upd, k1, k2, k3⟩ := nilFix_eff e1
    subst k1
    refine ⟨upd ++ [(d, base + g.an, .vars cs)], by simp only [upS, setsB_app]; rfl, fun u hu => ?_, fun s2 ag => ?_⟩
    · rcases List.mem_append.1 hu with hu | hu
      · obtain ⟨a1, a2, a3⟩ := k2 u hu
        have := own_mem (d := d) (base := base) (g := g) (ts := ts) (op := .alloc zero sl) (j := u.2.1 - (base + g.an)) (by omega)
        rw [show base + g.an + (u.2.1 - (base + g.an)) = u.2.1 by omega, ← a1] at this
        rw [a1] at this ⊢; exact this
      · simp at hu; subst hu; exact own_mem (j := 0) (by omega)
    · have := k3 s2.fr ag.len ag.lens (fun j a1 a2 => by
        have := hown s2 ag (j - (base + g.an)) (by omega)
        rwa [show base + g.an + (j - (base + g.an)) = j by omega] at this)
      simp only [heapV, heapSem, this]
      have hf2 : fresh (setsB s2.fr upd) d (base + g.an) = true := by
        rw [fresh_eq (h := setsB s.fr upd) (by rw [(len_setsB upd _).2, (len_setsB upd _).2]; exact ag.lens d) (getB_setsB_cong (d := d) (i := base + g.an) upd ag.len ag.lens (.inr (hown s2 ag 0 (by omega))))]; exact hf
      simp only [hf2, if_true, upS, setsB_app]; rfl
  | box n sl x =>
    simp only [HOp.cnt] at hcnt
    simp only [heapV, heapSem] at hk
    split at hk <;> try (cases hk; done)
    rename_i hc
    split at hk <;> try (cases hk; done)
    rename_i cs h e1
    split at hk <;> cases hk
    rename_i hf
    obtain ⟨upd, k1, k2, k3⟩ := nilFix_eff e1
    subst k1
    refine ⟨upd ++ [(d, base + g.an, .vars cs)], by simp only [upS, setsB_app]; rfl, fun u hu => ?_, fun s2 ag => ?_⟩
    · rcases List.mem_append.1 hu with hu | hu
      · obtain ⟨a1, a2, a3⟩ := k2 u hu
        have := own_mem (d := d) (base := base) (g := g) (ts := ts) (op := .box n sl x) (j := u.2.1 - (base + g.an)) (by omega)
        rw [show base + g.an + (u.2.1 - (base + g.an)) = u.2.1 by omega, ← a1] at this
        rw [a1] at this ⊢; exact this
      · simp at hu; subst hu; exact own_mem (j := 0) (by omega)
    · have := k3 s2.fr ag.len ag.lens (fun j a1 a2 => by
        have := hown s2 ag (j - (base + g.an)) (by omega)
        rwa [show base + g.an + (j - (base + g.an)) = j by omega] at this)
      simp only [heapV, heapSem, this, if_pos hc]
      have hf2 : fresh (setsB s2.fr upd) d (base + g.an) = true := by
        rw [fresh_eq (h := setsB s.fr upd) (by rw [(len_setsB upd _).2, (len_setsB upd _).2]; exact ag.lens d) (getB_setsB_cong (d := d) (i := base + g.an) upd ag.len ag.lens (.inr (hown s2 ag 0 (by omega))))]; exact hf
      simp only [hf2, if_true, upS, setsB_app]; rfl
  | makeSlice sz bytes z x =>
    simp only [heapV, heapSem] at hk
    split at hk <;> try (cases hk; done)
    rename_i kd n e1
    split at hk <;> cases hk
    rename_i hc
    refine ⟨[(d, base + g.an, .mar sz n.toNat fun _ => z)], rfl, fun u hu => ?_, fun s2 ag => ?_⟩
    · simp at hu; subst hu; exact own_mem (j := 0) hcnt
    · simp only [heapV, heapSem, e1, hown0 s2 ag hcnt, if_pos hc]; rfl
  | load n a =>
    simp only [heapV, heapSem, loadAt] at hk
    split at hk <;> try (cases hk; done)
    · rename_i cs e1
      split at hk <;> cases hk
      rename_i hc
      refine ⟨[], rfl, fun u hu => by simp at hu, fun s2 ag => ?_⟩
      simp only [heapV, heapSem, loadAt, e1, if_pos hc]; rfl
    · rename_i dd i off e1
      have hg := fun s2 ag => harg s2 ag a (by simp [HOp.args]) (dd, i) (by rw [e1]; simp [refB])
      split at hk <;> try (cases hk; done)
      rename_i cs e2
      split at hk <;> cases hk
      rename_i hc
      refine ⟨[], rfl, fun u hu => by simp at hu, fun s2 ag => ?_⟩
      have := hg s2 ag
      simp only at this
      simp only [heapV, heapSem, loadAt, e1, this, e2, if_pos hc]; rfl
    · rename_i dd i m e off e1
      have hg := fun s2 ag => harg s2 ag a (by simp [HOp.args]) (dd, i) (by rw [e1]; simp [refB])
      split at hk <;> try (cases hk; done)
      all_goals
        rename_i e2
        split at hk <;> cases hk
        rename_i hc
        refine ⟨[], rfl, fun u hu => by simp at hu, fun s2 ag => ?_⟩
        have := hg s2 ag
        simp only at this
        simp only [heapV, heapSem, loadAt, e1, this, e2, if_pos hc]; rfl
  | store n sl a v =>
    simp only [HOp.cnt] at hcnt
    simp only [heapV, heapSem, storeAt] at hk
    split at hk <;> try (cases hk; done)
    · rename_i dd i off e1
      have hg := fun s2 ag => harg s2 ag a (by simp [HOp.args]) (dd, i) (by rw [e1]; simp [refB])
      split at hk <;> try (cases hk; done)
      rename_i cs e2
      split at hk <;> try (cases hk; done)
      rename_i hc
      split at hk <;> try (cases hk; done)
      rename_i l h e3
      cases hk
      obtain ⟨upd, k1, k2, k3⟩ := nilFix_eff e3
      subst k1
      refine ⟨upd ++ [(dd, i, .vars (cs.take off ++ l ++ cs.drop (off + n)))], by simp only [upS, setsB_app]; rfl, fun u hu => ?_, fun s2 ag => ?_⟩
      · rcases List.mem_append.1 hu with hu | hu
        · obtain ⟨a1, a2, a3⟩ := k2 u hu
          have := own_mem (d := d) (base := base) (g := g) (ts := ts) (op := .store n sl a v) (j := u.2.1 - (base + g.an)) (by omega)
          rw [show base + g.an + (u.2.1 - (base + g.an)) = u.2.1 by omega, ← a1] at this
          rw [a1] at this ⊢; exact this
        · simp at hu; subst hu
          unfold fpW
          exact List.mem_append_right _ (by simp only [e1, refB]; simp)
      · have h1 := k3 s2.fr ag.len ag.lens (fun j a1 a2 => by
          have := hown s2 ag (j - (base + g.an)) (by omega)
          rwa [show base + g.an + (j - (base + g.an)) = j by omega] at this)
        have := hg s2 ag
        simp only at this
        simp only [heapV, heapSem, storeAt, e1, this, e2, if_pos hc, h1, upS, setsB_app]; rfl
    · rw [hal] at hk; simp at hk
  | append sz lim z x y =>
    simp only [heapV, heapSem, appendAt] at hk
    split at hk <;> try (cases hk; done)
    · rename_i e1
      rw [hal] at hk
      split at hk <;> try (cases hk; done)
      rename_i m get h e2
      split at hk <;> cases hk
      rename_i hc
      obtain ⟨q1, q2⟩ := content_false e2
      subst q1
      refine ⟨[(d, base + g.an, .arr sz m get)], rfl, fun u hu => ?_, fun s2 ag => ?_⟩
      · simp at hu; subst hu; exact own_mem (j := 0) hcnt
      · have h2 := q2 s2.fr (harg s2 ag y (by simp [HOp.args]))
        simp only [heapV, heapSem, appendAt, e1, hal, h2, hown0 s2 ag hcnt, if_pos hc]; rfl
    · rename_i dd i sz0 n e1
      have hg := fun s2 ag => harg s2 ag x (by simp [HOp.args]) (dd, i) (by rw [e1]; simp [refB])
      rw [hal] at hk
      split at hk <;> try (cases hk; done)
      rename_i m get h e2
      obtain ⟨q1, q2⟩ := content_false e2
      subst q1
      split at hk <;> try (cases hk; done)
      all_goals
        rename_i e3
        split at hk <;> cases hk
        rename_i hc
        refine ⟨[(dd, i, _)], rfl, fun u hu => ?_, fun s2 ag => ?_⟩
        · simp at hu; subst hu
          unfold fpW
          exact List.mem_append_right _ (by simp only [e1, refB]; simp)
        · have h2 := q2 s2.fr (harg s2 ag y (by simp [HOp.args]))
          have := hg s2 ag
          simp only at this
          simp only [heapV, heapSem, appendAt, e1, hal, h2, this, e3, if_pos hc]; rfl
  | clone mu lim z x =>
    simp only [heapV, heapSem] at hk
    rw [hal] at hk
    split at hk <;> try (cases hk; done)
    rename_i m get h e2
    split at hk <;> cases hk
    rename_i hc
    obtain ⟨q1, q2⟩ := content_false e2
    subst q1
    refine ⟨[(d, base + g.an, (if mu = true then .mar z.length m get else .arr z.length m get))], rfl, fun u hu => ?_, fun s2 ag => ?_⟩
    · simp at hu; subst hu; exact own_mem (j := 0) hcnt
    · have h2 := q2 s2.fr (harg s2 ag x (by simp [HOp.args]))
      simp only [heapV, heapSem, hal, h2, hown0 s2 ag hcnt, if_pos hc]; rfl
  | cloneP lim z x =>
    simp only [heapV, heapSem] at hk
    rw [hal] at hk
    split at hk <;> try (cases hk; done)
    rename_i m get h e2
    split at hk <;> cases hk
    rename_i hc
    obtain ⟨q1, q2⟩ := content_false e2
    subst q1
    refine ⟨[], rfl, fun u hu => by simp at hu, fun s2 ag => ?_⟩
    have h2 := q2 s2.fr (harg s2 ag x (by simp [HOp.args]))
    simp only [heapV, heapSem, hal, h2, if_pos hc]; rfl
  | buildSlice n sz z parts =>
    simp only [heapV, heapSem] at hk
    rw [hal] at hk
    split at hk
    · rename_i l h e2
      split at hk <;> cases hk
      rename_i hf
      obtain ⟨q1, q2⟩ := partsS_false e2
      subst q1
      refine ⟨[(d, base + g.an, .arr sz n (sList z l))], rfl, fun u hu => ?_, fun s2 ag => ?_⟩
      · simp at hu; subst hu; exact own_mem (j := 0) hcnt
      · have h2 := q2 s2.fr (hargs s2 ag _ (fun x hx => by simpa [HOp.args] using hx))
        simp only [heapV, heapSem, hal, h2, hown0 s2 ag hcnt, hf, if_true]; rfl
    · rename_i e2
      split at hk <;> try (cases hk; done)
      rename_i cs e3
      split at hk <;> cases hk
      rename_i hc
      refine ⟨[(d, base + g.an, .vars cs)], rfl, fun u hu => ?_, fun s2 ag => ?_⟩
      · simp at hu; subst hu; exact own_mem (j := 0) hcnt
      · have hnone : partsS false sz ts parts (List.replicate n z) s2.fr = none := by
          cases q : partsS false sz ts parts (List.replicate n z) s2.fr with
          | none => rfl
          | some p =>
            obtain ⟨l, h⟩ := p
            obtain ⟨q1, q2⟩ := partsS_false q
            have := q2 s.fr (fun y hy => (hargs s2 ag _ (fun x hx => by simpa [HOp.args] using hx) y hy).symm)
            rw [e2] at this; cases this
        simp only [heapV, heapSem, hal, hnone, e3, hown0 s2 ag hcnt, if_pos hc]; rfl
  | callQ f args =>
    simp only [heapV, heapSem] at hk
    split at hk <;> try (cases hk; done)
    rename_i ff a b e1
    split at hk <;> try (cases hk; done)
    rename_i os h e2
    obtain ⟨q1, q2⟩ := restArgs_false e2
    split at hk <;> try (cases hk; done)
    rename_i l e3
    split at hk <;> cases hk
    rename_i v e4
    refine ⟨[], rfl, fun u hu => by simp at hu, fun s2 ag => ?_⟩
    have h2 := q2 s2.fr (hargs s2 ag _ (fun x hx => by simp only [HOp.args]; exact List.mem_cons_of_mem _ hx))
    simp only [heapV, heapSem, e1, h2, e3, e4]; rfl
  | callS f args =>
    simp only [heapV, heapSem] at hk
    split at hk <;> try (cases hk; done)
    rename_i l e2
    split at hk <;> try (cases hk; done)
    rename_i v e3
    split at hk <;> cases hk
    rename_i hc
    refine ⟨[], rfl, fun u hu => by simp at hu, fun s2 ag => ?_⟩
    have h2 := snapArgs_agree (ts := ts) (l := args) (h := s.fr) (h2 := s2.fr) (hargs s2 ag _ (fun x hx => by simpa [HOp.args] using hx))
    rw [e2] at h2
    simp only [heapV, heapSem, h2, e3, hc, if_true]; rfl
  | slice sz x lo hi mx =>
    simp only [heapV, heapSem] at hk
    split at hk
    · rename_i e1
      rw [sliceP_nat (α := O × St) sz _ lo hi mx (fun v => v) (fun v => some (v, s))] at hk
      cases e2 : sliceP ts (fun v => some v) sz .nils lo hi mx with
      | none => rw [e2] at hk; cases hk
      | some v =>
        rw [e2] at hk
        cases hk
        refine ⟨[], rfl, fun u hu => by simp at hu, fun s2 ag => ?_⟩
        simp only [heapV, heapSem, e1]
        rw [sliceP_nat (α := O × St) sz _ lo hi mx (fun v => v) (fun v => some (v, s2)), e2]; rfl
    · rename_i e1
      rw [hal] at hk
      split at hk <;> try (cases hk; done)
      rename_i o2 h e2
      obtain ⟨q1, q2⟩ := restO_false e2
      subst q1
      rw [sliceP_nat (α := O × St) sz _ lo hi mx (fun v => v) (fun v => some (v, s))] at hk
      cases e3 : sliceP ts (fun v => some v) sz o2 lo hi mx with
      | none => rw [e3] at hk; cases hk
      | some v =>
        rw [e3] at hk
        cases hk
        refine ⟨[], rfl, fun u hu => by simp at hu, fun s2 ag => ?_⟩
        have h2 := q2 s2.fr (harg s2 ag x (by simp [HOp.args]))
        simp only [heapV, heapSem, hal, h2]
        rw [sliceP_nat (α := O × St) sz _ lo hi mx (fun v => v) (fun v => some (v, s2)), e3]; rfl
  | mlookup x i n zero ok =>
    simp only [heapV, heapSem] at hk
    have hm : ∀ s2 : St, Agree (fpR ts (.mlookup x i n zero ok) ++ fpW d base g ts (.mlookup x i n zero ok)) s.fr s2.fr → mapOf s2.fr (rd ts x) = mapOf s.fr (rd ts x) := by
      intro s2 ag
      cases e : rd ts x with
      | mref dd b =>
        have := harg s2 ag x (by simp [HOp.args]) (dd, b) (by rw [e]; simp [refB])
        simp only at this
        simp only [mapOf, this]
      | c v => cases v <;> rfl
      | _ => rfl
    split at hk <;> try (cases hk; done)
    rename_i kd j e1
    split at hk <;> try (cases hk; done)
    rename_i f e2
    split at hk
    · rename_i cs e3
      split at hk
      · rename_i hc
        cases hk
        refine ⟨[], rfl, fun u hu => by simp at hu, fun s2 ag => ?_⟩
        simp only [heapV, heapSem, e1, hm s2 ag, e2, e3, hc, if_true]; rfl
      · rename_i hc
        cases hk
        refine ⟨[], rfl, fun u hu => by simp at hu, fun s2 ag => ?_⟩
        simp only [heapV, heapSem, e1, hm s2 ag, e2, e3, if_neg hc]; rfl
    · rename_i e3
      split at hk
      · rename_i hc
        cases hk
        refine ⟨[], rfl, fun u hu => by simp at hu, fun s2 ag => ?_⟩
        simp only [heapV, heapSem, e1, hm s2 ag, e2, e3, hc, if_true]; rfl
      · rename_i hc
        cases hk
        refine ⟨[], rfl, fun u hu => by simp at hu, fun s2 ag => ?_⟩
        simp only [heapV, heapSem, e1, hm s2 ag, e2, e3, if_neg hc]; rfl
  | callM f args =>
    simp only [heapV, heapSem] at hk
    split at hk <;> try (cases hk; done)
    rename_i ff a b os h e1 e2
    obtain ⟨q1, q2⟩ := restArgs_false e2
    have h2 := fun (s2 : St) (ag : Agree (fpR ts (.callM f args) ++ fpW d base g ts (.callM f args)) s.fr s2.fr) => q2 s2.fr (hargs s2 ag _ (fun x hx => by simp only [HOp.args]; exact List.mem_cons_of_mem _ hx))
    split at hk
    · rename_i l e3
      split at hk <;> cases hk
      rename_i v e4
      refine ⟨[], rfl, fun u hu => by simp at hu, fun s2 ag => ?_⟩
      simp only [heapV, heapSem, e1, h2 s2 ag, e3, e4]; rfl
    · rename_i e3
      split at hk <;> try (cases hk; done)
      rename_i hc
      split at hk <;> try (cases hk; done)
      rename_i v s'' e4
      split at hk <;> cases hk
      rename_i hc5
      obtain ⟨hc1, hc4, hc2, hc6, hc3⟩ := hc
      refine ⟨_, rfl, fun u hu => ?_, fun s2 ag => ?_⟩
      · obtain ⟨i, hi, rfl⟩ := List.mem_map.1 hu
        have := List.all_eq_true.1 hc3 i hi
        simp only [Bool.and_eq_true, List.contains_iff_mem] at this
        exact this.1
      · have hgi : ∀ i ∈ idsOf (a ++ os ++ b), getB s2.fr 0 i = getB s.fr 0 i := fun i hi => by
          have := List.all_eq_true.1 hc3 i hi
          simp only [Bool.and_eq_true, List.contains_iff_mem] at this
          exact ag.get (0, i) (List.mem_append_right _ this.1)
        have hmask : maskB 0 (idsOf (a ++ os ++ b)) (s2.fr.getD 0 []) = maskB 0 (idsOf (a ++ os ++ b)) (s.fr.getD 0 []) := mask_agree _ _ _ 0 (ag.lens 0) (fun i hi => by rw [Nat.zero_add] at hi; exact hgi i hi)
        have hall : (idsOf (a ++ os ++ b)).all (fun i => (fpW d base g ts (.callM f args)).contains (0, i) && inB (idsOf (a ++ os ++ b)) (getB s2.fr 0 i)) = true := by
          rw [List.all_eq_true] at hc3 ⊢
          intro i hi
          rw [hgi i hi]; exact hc3 i hi
        have hlen : s2.fr.length = 1 := by rw [ag.len]; exact hc4
        simp only [heapV, heapSem, e1, h2 s2 ag, e3, if_pos (And.intro hc1 (And.intro hlen (And.intro hc2 (And.intro hc6 hall)))), hmask, e4, hc5, if_true]; rfl
end
end Go.Ab

/-! ## As15 -/
namespace Go.Ab

def argSlots (l : List Arg) : List Nat := l.filterMap fun | .t n => some n | _ => none
def G.args (g : G) : List Arg := match g.op with | .inl op => op.args | .inr op => op.args
def G.looks (g : G) : List Nat := argSlots g.args ++ (match g.guard with | some (t, _) => [t] | none => [])
def SAgree (l : List Nat) (ts ts2 : List O) : Prop := ∀ n ∈ l, ts2.getD n .undef = ts.getD n .undef

section
variable {α : Type} {E : Env} {d base : Nat} {g : G} {ts ts2 : List O} {s : St}

theorem SAgree.symm {l : List Nat} (h : SAgree l ts ts2) : SAgree l ts2 ts := fun n hn => (h n hn).symm
theorem SAgree.args {l : List Arg} (h : SAgree (argSlots l) ts ts2) : ∀ x ∈ l, rd ts2 x = rd ts x := by
  intro x hx
  cases x with
  | t n => exact h n (List.mem_filterMap.2 ⟨.t n, hx, rfl⟩)
  | k v => rfl
  | f f => rfl
theorem SAgree.left {l m : List Nat} (h : SAgree (l ++ m) ts ts2) : SAgree l ts ts2 := fun n hn => h n (List.mem_append_left _ hn)
theorem SAgree.right {l m : List Nat} (h : SAgree (l ++ m) ts ts2) : SAgree m ts ts2 := fun n hn => h n (List.mem_append_right _ hn)
theorem set_same {t : Nat} {v : C} (h : ts.getD t .undef = .c v) : ts.set t (.c v) = ts := by
  by_cases ht : t < ts.length
  · rw [List.getD_eq_getElem?_getD, List.getElem?_eq_getElem ht] at h
    simp only [Option.getD_some] at h
    rw [← h]; simp
  · exact List.set_eq_of_length_le (by omega)

/-- An operation's own part, behind its guard. -/
def goSem (E : Env) (d base : Nat) (g : G) (ts : List O) (s : St) (k : List O → St → Option α) : Option α :=
  match g.op with
  | .inl op => pureSem ts (fun o => k (putO ts g.dst o) s) op
  | .inr op => if g.alone = true ∨ okOpen op = true then heapSem E d base g ts s (fun o s => k (putO ts g.dst o) s) op else none
theorem opSem_eq (k : List O → St → Option α) : opSem E d base g ts s k =
    match g.guard with
    | none => goSem E d base g ts s k
    | some (t, w) => match ts.getD t .undef with
      | .c (.bool b) => if b = w then goSem E d base g ts s k else k (putO ts g.dst skipO) s
      | .c (.tuple []) => k (putO ts g.dst skipO) s
      | _ => none := by
  unfold opSem goSem
  cases hg : g.guard with
  | none => rfl
  | some p =>
    obtain ⟨t, w⟩ := p
    simp only
    cases e : ts.getD t .undef with
    | c v =>
      cases v with
      | bool b =>
        have h1 := set_same e
        cases b <;> cases w <;> simp [h1] <;> (cases g.op <;> rfl)
      | tuple l => cases l <;> rfl
      | _ => rfl
    | _ => rfl

def opV (E : Env) (d base : Nat) (g : G) (ts : List O) (s : St) : Option (List O × St) := opSem E d base g ts s fun ts s => some (ts, s)
theorem goSem_nat (k : List O → St → Option α) : goSem E d base g ts s k = (goSem E d base g ts s (fun ts s => some (ts, s))).bind fun p => k p.1 p.2 := by
  unfold goSem
  cases g.op with
  | inl op =>
    simp only
    rw [pureSem_nat, pureSem_nat op (fun o => some (putO ts g.dst o, s))]
    cases pureSem ts some op <;> rfl
  | inr op =>
    simp only
    split
    · rw [heapSem_nat, heapSem_nat op (fun o s => some (putO ts g.dst o, s))]
      cases heapSem E d base g ts s (fun o s => some (o, s)) op <;> rfl
    · rfl
theorem opSem_nat (k : List O → St → Option α) : opSem E d base g ts s k = (opV E d base g ts s).bind fun p => k p.1 p.2 := by
  unfold opV
  rw [opSem_eq, opSem_eq]
  split
  · exact goSem_nat k
  · split
    · split
      · exact goSem_nat k
      · rfl
    · rfl
    · rfl

theorem go_eff {o' : List O × St} (hk : goSem E d base g ts s (fun ts s => some (ts, s)) = some o') : ∃ o, o'.1 = putO ts g.dst o ∧
    (∀ ts2, SAgree (argSlots g.args) ts ts2 → goSem E d base g ts2 s (fun ts s => some (ts, s)) = some (putO ts2 g.dst o, o'.2)) ∧
    (∀ p, g.op = .inl p → o'.2 = s ∧ ∀ ts2 s2, SAgree (argSlots g.args) ts ts2 → goSem E d base g ts2 s2 (fun ts s => some (ts, s)) = some (putO ts2 g.dst o, s2)) ∧
    (∀ op, g.op = .inr op → g.alone = false → op.cnt ≤ g.cnt → ∃ upd, o'.2 = upS s upd ∧ (∀ u ∈ upd, (u.1, u.2.1) ∈ fpW d base g ts op) ∧
      ∀ ts2 s2, SAgree (argSlots g.args) ts ts2 → Agree (fpR ts op ++ fpW d base g ts op) s.fr s2.fr → goSem E d base g ts2 s2 (fun ts s => some (ts, s)) = some (putO ts2 g.dst o, upS s2 upd)) := by
  cases hop : g.op with
  | inl op =>
    have ha : g.args = op.args := by simp [G.args, hop]
    simp only [goSem, hop] at hk
    rw [pureSem_nat] at hk
    cases e : pureSem ts some op with
    | none => rw [e] at hk; cases hk
    | some o =>
      rw [e] at hk
      cases hk
      have key : ∀ ts2 s2, SAgree (argSlots g.args) ts ts2 → goSem E d base g ts2 s2 (fun ts s => some (ts, s)) = some (putO ts2 g.dst o, s2) := by
        intro ts2 s2 hs
        rw [ha] at hs
        simp only [goSem, hop]
        rw [pureSem_congr (ts2 := ts) op _ hs.args, pureSem_nat, e]; rfl
      exact ⟨o, rfl, fun ts2 hs => key ts2 s hs, fun p _ => ⟨rfl, key⟩, fun op2 h2 => by cases h2⟩
  | inr op =>
    have ha : g.args = op.args := by simp [G.args, hop]
    simp only [goSem, hop] at hk
    split at hk <;> try (cases hk; done)
    rename_i hc
    rw [heapSem_nat] at hk
    cases e : heapSem E d base g ts s (fun o s => some (o, s)) op with
    | none => rw [e] at hk; cases hk
    | some p =>
      obtain ⟨o, s'⟩ := p
      rw [e] at hk
      cases hk
      refine ⟨o, rfl, fun ts2 hs => ?_, fun p hp => (by cases hp), fun op2 hop2 hal hcnt => ?_⟩
      · rw [ha] at hs
        simp only [goSem, hop]
        rw [if_pos hc, heapSem_congr (ts2 := ts) op _ hs.args, heapSem_nat, e]; rfl
      · cases hop2
        have hok : okOpen op = true := hc.resolve_left (by rw [hal]; simp)
        obtain ⟨upd, k1, k2, k3⟩ := eff hal hok hcnt e
        refine ⟨upd, k1, k2, fun ts2 s2 hs hag => ?_⟩
        rw [ha] at hs
        have h3 := k3 s2 hag
        simp only [heapV] at h3
        simp only [goSem, hop]
        rw [if_pos hc, heapSem_congr (ts2 := ts) op _ hs.args, heapSem_nat, h3]; rfl

theorem op_eff {o' : List O × St} (hk : opV E d base g ts s = some o') : ∃ o, o'.1 = putO ts g.dst o ∧
    (∀ ts2, SAgree g.looks ts ts2 → opV E d base g ts2 s = some (putO ts2 g.dst o, o'.2)) ∧
    (∀ p, g.op = .inl p → o'.2 = s ∧ ∀ ts2 s2, SAgree g.looks ts ts2 → opV E d base g ts2 s2 = some (putO ts2 g.dst o, s2)) ∧
    (∀ op, g.op = .inr op → g.alone = false → op.cnt ≤ g.cnt → ∃ upd, o'.2 = upS s upd ∧ (∀ u ∈ upd, (u.1, u.2.1) ∈ fpW d base g ts op) ∧
      ∀ ts2 s2, SAgree g.looks ts ts2 → Agree (fpR ts op ++ fpW d base g ts op) s.fr s2.fr → opV E d base g ts2 s2 = some (putO ts2 g.dst o, upS s2 upd)) := by
  unfold opV at hk ⊢
  simp only [opSem_eq] at hk ⊢
  cases hg : g.guard with
  | none =>
    simp only [hg] at hk ⊢
    obtain ⟨o, h1, h2, h3, h4⟩ := go_eff hk
    exact ⟨o, h1, fun ts2 hs => h2 ts2 hs.left, fun p hp => ⟨(h3 p hp).1, fun ts2 s2 hs => (h3 p hp).2 ts2 s2 hs.left⟩, fun op hop hal hc =>
      let ⟨upd, k1, k2, k3⟩ := h4 op hop hal hc
      ⟨upd, k1, k2, fun ts2 s2 hs hag => k3 ts2 s2 hs.left hag⟩⟩
  | some p =>
    obtain ⟨t, w⟩ := p
    simp only [hg] at hk ⊢
    have hsl : ∀ ts2, SAgree g.looks ts ts2 → ts2.getD t .undef = ts.getD t .undef := fun ts2 hs => hs t (by unfold G.looks; rw [hg]; simp)
    have skip : some (putO ts g.dst skipO, s) = some o' → ∃ o, o'.1 = putO ts g.dst o ∧ o'.2 = s ∧ o = skipO := by intro e; cases e; exact ⟨_, rfl, rfl, rfl⟩
    cases e : ts.getD t .undef with
    | c v =>
      cases v with
      | bool b =>
        simp only [e] at hk
        split at hk
        · rename_i hb
          obtain ⟨o, h1, h2, h3, h4⟩ := go_eff hk
          refine ⟨o, h1, fun ts2 hs => ?_, fun p hp => ⟨(h3 p hp).1, fun ts2 s2 hs => ?_⟩, fun op hop hal hc => ?_⟩
          · rw [hsl ts2 hs, e]; simp only [if_pos hb]; exact h2 ts2 hs.left
          · rw [hsl ts2 hs, e]; simp only [if_pos hb]; exact (h3 p hp).2 ts2 s2 hs.left
          · obtain ⟨upd, k1, k2, k3⟩ := h4 op hop hal hc
            exact ⟨upd, k1, k2, fun ts2 s2 hs hag => by rw [hsl ts2 hs, e]; simp only [if_pos hb]; exact k3 ts2 s2 hs.left hag⟩
        · rename_i hb
          obtain ⟨o, h1, h2, rfl⟩ := skip hk
          refine ⟨skipO, h1, fun ts2 hs => ?_, fun p hp => ⟨h2, fun ts2 s2 hs => ?_⟩, fun op hop hal hc => ⟨[], by rw [h2]; rfl, fun u hu => by simp at hu, fun ts2 s2 hs hag => ?_⟩⟩
          · rw [hsl ts2 hs, e]; simp only [if_neg hb, h2]
          · rw [hsl ts2 hs, e]; simp only [if_neg hb]
          · rw [hsl ts2 hs, e]; simp only [if_neg hb]; rfl
      | tuple l =>
        cases l with
        | nil =>
          simp only [e] at hk
          obtain ⟨o, h1, h2, rfl⟩ := skip hk
          refine ⟨skipO, h1, fun ts2 hs => ?_, fun p hp => ⟨h2, fun ts2 s2 hs => ?_⟩, fun op hop hal hc => ⟨[], by rw [h2]; rfl, fun u hu => by simp at hu, fun ts2 s2 hs hag => ?_⟩⟩
          · rw [hsl ts2 hs, e]; simp only [h2]
          · rw [hsl ts2 hs, e]
          · rw [hsl ts2 hs, e]; rfl
        | cons x y => simp only [e] at hk; cases hk
      | _ => simp only [e] at hk; cases hk
    | _ => simp only [e] at hk; cases hk

theorem putO_get {dst : Option Nat} {o : O} {n : Nat} (h : ∀ t, dst = some t → t ≠ n) : (putO ts dst o).getD n .undef = ts.getD n .undef := by
  cases dst with
  | none => rfl
  | some t => simp only [putO, List.getD_eq_getElem?_getD, List.getElem?_set_ne (h t rfl)]
theorem putO_comm {d1 d2 : Option Nat} {o1 o2 : O} (h : ∀ t, d1 = some t → d2 ≠ some t) : putO (putO ts d1 o1) d2 o2 = putO (putO ts d2 o2) d1 o1 := by
  cases d1 with
  | none => rfl
  | some a =>
    cases d2 with
    | none => rfl
    | some b => exact List.set_comm _ _ (fun e => h a rfl (by rw [e]))
theorem apart_spec {l m : List (Nat × Nat)} (h : apart l m = true) : ∀ x ∈ l, x ∉ m := by
  intro x hx hm
  have := List.all_eq_true.1 h x hx
  simp [hm] at this

/-- Two operations that do not meet, the other way round. -/
theorem swap {g1 g2 : G} {ts1 : List O} {s1 : St} {res : List O × St} (h1 : opV E d base g1 ts s = some (ts1, s1)) (h2 : opV E d base g2 ts1 s1 = some res)
    (hs1 : ∀ t, g1.dst = some t → t ∉ g2.looks) (hs2 : ∀ t, g2.dst = some t → t ∉ g1.looks) (hd : ∀ t, g1.dst = some t → g2.dst ≠ some t)
    (hop : (∃ p, g1.op = .inl p) ∨ (∃ p, g2.op = .inl p) ∨ ∃ o1 o2, g1.op = .inr o1 ∧ g2.op = .inr o2 ∧ g1.alone = false ∧ g2.alone = false ∧ o1.cnt ≤ g1.cnt ∧ o2.cnt ≤ g2.cnt ∧ freeB d base ts g1 g2 = true) :
    ∃ ts2 s2, opV E d base g2 ts s = some (ts2, s2) ∧ opV E d base g1 ts2 s2 = some res := by
  obtain ⟨o1, a1, a2, a3, a4⟩ := op_eff h1
  obtain ⟨o2, b1, b2, b3, b4⟩ := op_eff h2
  obtain ⟨rts, rs⟩ := res
  simp only at a1 b1
  have hA : SAgree g2.looks ts1 ts := fun n hn => by
    rw [a1]; exact (putO_get fun t ht e => hs1 t ht (e ▸ hn)).symm
  have hB : SAgree g1.looks ts (putO ts g2.dst o2) := fun n hn => putO_get fun t ht e => hs2 t ht (e ▸ hn)
  have hts : putO (putO ts g2.dst o2) g1.dst o1 = rts := by rw [b1, a1]; exact (putO_comm hd).symm
  rcases hop with ⟨p, hp⟩ | ⟨p, hp⟩ | ⟨p1, p2, hp1, hp2, hal1, hal2, hc1, hc2, hfree⟩
  · obtain ⟨k1, k2⟩ := a3 p hp
    simp only at k1
    subst k1
    exact ⟨_, _, b2 ts hA, by rw [k2 _ _ hB, hts]⟩
  · obtain ⟨k1, k2⟩ := b3 p hp
    simp only at k1
    subst k1
    exact ⟨_, _, k2 ts s hA, by rw [a2 _ hB, hts]⟩
  · obtain ⟨u1, c1, c2, c3⟩ := a4 p1 hp1 hal1 hc1
    obtain ⟨u2, e1, e2, e3⟩ := b4 p2 hp2 hal2 hc2
    simp only at c1 e1
    have hargs2 : ∀ x ∈ p2.args, rd ts1 x = rd ts x := fun x hx => (SAgree.args (l := p2.args) (by have := hA.left; simpa [G.args, hp2] using this) x hx).symm
    have f1 : fpR ts1 p2 = fpR ts p2 := fpR_congr hargs2
    have f2 : fpW d base g2 ts1 p2 = fpW d base g2 ts p2 := fpW_congr hargs2
    rw [f1, f2] at e3
    rw [f2] at e2
    simp only [freeB, hp1, hp2, Bool.and_eq_true] at hfree
    have fr1 := apart_spec hfree.1
    have fr2 := apart_spec hfree.2
    have n1 : ∀ x ∈ fpR ts p2 ++ fpW d base g2 ts p2, ∀ u ∈ u1, ¬ (x.1 = u.1 ∧ x.2 = u.2.1) := by
      rintro x hx u hu ⟨q1, q2⟩
      have := fr1 _ (c2 u hu)
      rw [← q1, ← q2] at this
      exact this hx
    have n2 : ∀ x ∈ fpR ts p1 ++ fpW d base g1 ts p1, ∀ u ∈ u2, ¬ (x.1 = u.1 ∧ x.2 = u.2.1) := by
      rintro x hx u hu ⟨q1, q2⟩
      have hw := e2 u hu
      rw [← q1, ← q2] at hw
      rcases List.mem_append.1 hx with hx | hx
      · exact fr2 _ hw hx
      · exact fr1 _ hx (List.mem_append_right _ hw)
    subst c1
    have g1' := e3 ts s hA ⟨by rw [show (upS s u1).fr = setsB s.fr u1 from rfl, (len_setsB u1 _).1], fun d => by rw [show (upS s u1).fr = setsB s.fr u1 from rfl, (len_setsB u1 _).2], fun x hx => (getB_setsB_ne u1 s.fr (n1 x hx)).symm⟩
    have g2' := c3 (putO ts g2.dst o2) (upS s u2) hB ⟨(len_setsB u2 _).1, (len_setsB u2 _).2, fun x hx => getB_setsB_ne u2 s.fr (n2 x hx)⟩
    refine ⟨_, _, g1', ?_⟩
    rw [g2', hts]
    congr 2
    subst e1
    show upS (upS s u2) u1 = upS (upS s u1) u2
    unfold upS
    congr 1
    refine heap_ext (by
      show (setsB (setsB s.fr u2) u1).length = (setsB (setsB s.fr u1) u2).length
      rw [(len_setsB _ _).1, (len_setsB _ _).1, (len_setsB _ _).1, (len_setsB _ _).1]) (fun dd => by
      show ((setsB (setsB s.fr u2) u1).getD dd []).length = ((setsB (setsB s.fr u1) u2).getD dd []).length
      rw [(len_setsB _ _).2, (len_setsB _ _).2, (len_setsB _ _).2, (len_setsB _ _).2]) (fun dd i => ?_)
    by_cases k1 : ∃ u ∈ u1, dd = u.1 ∧ i = u.2.1
    · obtain ⟨u, hu, hdd⟩ := k1
      have hno : ∀ v ∈ u2, ¬ (dd = v.1 ∧ i = v.2.1) := by
        rintro v hv ⟨q1, q2⟩
        exact n2 (u.1, u.2.1) (List.mem_append_right _ (c2 u hu)) v hv ⟨by rw [← hdd.1, q1], by rw [← hdd.2, q2]⟩
      rw [getB_setsB_ne u2 _ hno]
      exact getB_setsB_cong u1 (len_setsB u2 _).1 (len_setsB u2 _).2 (.inl ⟨u, hu, hdd⟩)
    · have hno : ∀ u ∈ u1, ¬ (dd = u.1 ∧ i = u.2.1) := fun u hu q => k1 ⟨u, hu, q⟩
      rw [getB_setsB_ne u1 _ hno]
      by_cases k2 : ∃ u ∈ u2, dd = u.1 ∧ i = u.2.1
      · exact (getB_setsB_cong u2 (len_setsB u1 _).1 (len_setsB u1 _).2 (.inl k2)).symm
      · have hno2 : ∀ u ∈ u2, ¬ (dd = u.1 ∧ i = u.2.1) := fun u hu q => k2 ⟨u, hu, q⟩
        rw [getB_setsB_ne u2 _ hno2, getB_setsB_ne u2 _ hno2, getB_setsB_ne u1 _ hno]
end
end Go.Ab

/-! ## As16 -/
namespace Go.Ab

section
variable {α : Type} {E : Env} {d base : Nat} {L : List G} {ts : List O} {s : St}

/-- The operations of a list, by their places. -/
def opsI (E : Env) (d base : Nat) (L : List G) : List Nat → List O → St → Option (List O × St)
  | [], ts, s => some (ts, s)
  | i :: r, ts, s => match L[i]? with
    | some g => (opV E d base g ts s).bind fun p => opsI E d base L r p.1 p.2
    | none => none
theorem opsSem_eq : ∀ (l : List G) (ts : List O) (s : St) (k : List O → St → Option α), opsSem E d base l ts s k = (opsSem E d base l ts s fun ts s => some (ts, s)).bind fun p => k p.1 p.2 := by
  intro l
  induction l with
  | nil => intro ts s k; rfl
  | cons g r ih =>
    intro ts s k
    simp only [opsSem]
    rw [opSem_nat, opSem_nat (fun ts s => opsSem E d base r ts s fun ts s => some (ts, s))]
    cases opV E d base g ts s with
    | none => rfl
    | some p => simp only [Option.bind_some]; exact ih _ _ _
theorem opsI_range' : ∀ (l : List G) (j : Nat), L.drop j = l → ∀ ts s, (opsSem E d base l ts s fun ts s => some (ts, s)) = opsI E d base L (List.range' j l.length) ts s := by
  intro l
  induction l with
  | nil => intro j hl ts s; rfl
  | cons g r ih =>
    intro j hl ts s
    have hj : L[j]? = some g := by
      have : (L.drop j)[0]? = some g := by rw [hl]; rfl
      rw [List.getElem?_drop] at this; simpa using this
    have hr : L.drop (j + 1) = r := by
      have := congrArg List.tail hl
      simpa [List.tail_drop] using this
    simp only [opsSem, List.length_cons, List.range'_succ, opsI, hj]
    rw [opSem_nat]
    cases opV E d base g ts s with
    | none => rfl
    | some p => simp only [Option.bind_some]; exact ih (j + 1) hr _ _
theorem opsI_cons {i : Nat} {r : List Nat} {res : List O × St} (h : opsI E d base L (i :: r) ts s = some res) : ∃ g ts1 s1, L[i]? = some g ∧ opV E d base g ts s = some (ts1, s1) ∧ opsI E d base L r ts1 s1 = some res := by
  simp only [opsI] at h
  split at h <;> try (cases h; done)
  rename_i g e
  cases e2 : opV E d base g ts s with
  | none => rw [e2] at h; cases h
  | some p => rw [e2] at h; exact ⟨g, p.1, p.2, e, e2, h⟩
theorem opsI_intro {i : Nat} {r : List Nat} {g : G} {ts1 : List O} {s1 : St} (h1 : L[i]? = some g) (h2 : opV E d base g ts s = some (ts1, s1)) : opsI E d base L (i :: r) ts s = opsI E d base L r ts1 s1 := by
  simp only [opsI, h1, h2, Option.bind_some]

/-- Slots that no operation of a list writes stay. -/
theorem opsI_frame : ∀ (l : List Nat) {ts : List O} {s : St} {res : List O × St}, opsI E d base L l ts s = some res → ∀ {n : Nat}, (∀ i ∈ l, ∀ g, L[i]? = some g → ∀ t, g.dst = some t → t ≠ n) → res.1.getD n .undef = ts.getD n .undef := by
  intro l
  induction l with
  | nil => intro ts s res h n hn; simp only [opsI, Option.some.injEq] at h; subst h; rfl
  | cons i r ih =>
    intro ts s res h n hn
    obtain ⟨g, ts1, s1, h1, h2, h3⟩ := opsI_cons h
    rw [ih h3 (fun j hj => hn j (List.mem_cons_of_mem _ hj))]
    obtain ⟨o, a1, _⟩ := op_eff h2
    simp only at a1
    rw [a1]
    exact putO_get fun t ht => hn i (List.mem_cons_self ..) g h1 t ht

/-- What is known of a region's operations: 'rel y i' where y must come ahead of i. -/
structure RegOk (d base : Nat) (L : List G) (un : List (Nat × Nat)) (rel : Nat → Nat → Prop) : Prop where
  lt : ∀ y i, rel y i → y < i
  looks : ∀ (i k : Nat) (gi gk : G) (t : Nat), L[i]? = some gi → L[k]? = some gk → gk.dst = some t → t ∈ gi.looks → rel k i
  dst : ∀ (i k : Nat) (gi gk : G) (t : Nat), k < i → L[i]? = some gi → L[k]? = some gk → gk.dst = some t → gi.dst = some t → rel k i
  heavy : ∀ (y i : Nat) (gy gi : G), y < i → ¬ rel y i → L[y]? = some gy → L[i]? = some gi → (∃ p, gy.op = .inl p) ∨ (∃ p, gi.op = .inl p) ∨
    ∃ o1 o2, gy.op = .inr o1 ∧ gi.op = .inr o2 ∧ gy.alone = false ∧ gi.alone = false ∧ o1.cnt ≤ gy.cnt ∧ o2.cnt ≤ gi.cnt ∧ ((y, i) ∈ un ∨ ((∀ ts, fpW d base gy ts o1 = []) ∧ ∀ ts, fpW d base gi ts o2 = []))

theorem disOk_spec {tsf : List O} : ∀ {un : List (Nat × Nat)}, disOk d base tsf L un = true → ∀ {y i : Nat}, (y, i) ∈ un → ∀ {g1 g2 : G}, L[y]? = some g1 → L[i]? = some g2 → freeB d base tsf g1 g2 = true := by
  intro un
  induction un with
  | nil => intro _ y i h; cases h
  | cons p r ih =>
    obtain ⟨a, b⟩ := p
    intro h y i hm g1 g2 h1 h2
    simp only [disOk, Bool.and_eq_true] at h
    rcases List.mem_cons.1 hm with e | hm
    · cases e
      rw [h1, h2] at h
      exact h.1
    · exact ih h.2 hm h1 h2
theorem freeB_congr {ts ts2 : List O} {g1 g2 : G} (h1 : SAgree g1.looks ts ts2) (h2 : SAgree g2.looks ts ts2) : freeB d base ts g1 g2 = freeB d base ts2 g1 g2 := by
  unfold freeB
  cases e1 : g1.op with
  | inl p => rfl
  | inr o1 =>
    cases e2 : g2.op with
    | inl p => rfl
    | inr o2 =>
      have a1 : ∀ x ∈ o1.args, rd ts x = rd ts2 x := fun x hx => (SAgree.args (l := o1.args) (by have := h1.left; simpa [G.args, e1] using this) x hx).symm
      have a2 : ∀ x ∈ o2.args, rd ts x = rd ts2 x := fun x hx => (SAgree.args (l := o2.args) (by have := h2.left; simpa [G.args, e2] using this) x hx).symm
      simp only [fpW_congr (d := d) (base := base) (g := g1) a1, fpW_congr (d := d) (base := base) (g := g2) a2, fpR_congr a1, fpR_congr a2]
theorem freeB_none {ts : List O} {g1 g2 : G} {o1 o2 : HOp} (e1 : g1.op = .inr o1) (e2 : g2.op = .inr o2) (h1 : fpW d base g1 ts o1 = []) (h2 : fpW d base g2 ts o2 = []) : freeB d base ts g1 g2 = true := by
  unfold freeB
  simp only [e1, e2, h1, h2]
  rfl

/-- Sorted, and all behind. -/
theorem front {un : List (Nat × Nat)} {rel : Nat → Nat → Prop} (R : RegOk d base L un rel) {i : Nat} {l2 : List Nat} : ∀ (l1 : List Nat) {ts : List O} {s : St} {res : List O × St}, opsI E d base L (l1 ++ i :: l2) ts s = some res → disOk d base res.1 L un = true →
    (l1 ++ i :: l2).Pairwise (· < ·) → (∀ y ∈ l1 ++ i :: l2, ¬ rel y i) → opsI E d base L (i :: (l1 ++ l2)) ts s = some res := by
  intro l1
  induction l1 with
  | nil => intro ts s res h _ _ _; exact h
  | cons y l1 ih =>
    intro ts s res h hdis hp hrel
    obtain ⟨gy, ts1, s1, h1, h2, h3⟩ := opsI_cons h
    rw [List.cons_append, List.pairwise_cons] at hp
    have h4 := ih h3 hdis hp.2 (fun z hz => hrel z (List.mem_cons_of_mem _ hz))
    obtain ⟨gi, ts2, s2, k1, k2, k3⟩ := opsI_cons h4
    have hyi : y < i := hp.1 i (by simp)
    have hnr : ¬ rel y i := hrel y (by simp)
    have hni : ¬ rel i y := fun q => by have := R.lt _ _ q; omega
    have hfy : SAgree gy.looks ts res.1 := fun n hn => opsI_frame _ h (fun k hk g hg t ht e => by
      subst e
      have := R.lt _ _ (R.looks y k gy g t h1 hg ht hn)
      rw [List.cons_append] at hk
      rcases List.mem_cons.1 hk with rfl | hk
      · omega
      · have := hp.1 k hk; omega)
    have hfi : SAgree gi.looks ts res.1 := fun n hn => opsI_frame _ h (fun k hk g hg t ht e => by
      subst e
      exact hrel k hk (R.looks i k gi g t k1 hg ht hn))
    obtain ⟨ts3, s3, q1, q2⟩ := swap h2 k2 (fun t ht hn => hnr (R.looks i y gi gy t k1 h1 ht hn)) (fun t ht hn => hni (R.looks y i gy gi t h1 k1 ht hn)) (fun t ht e => hnr (R.dst i y gi gy t hyi k1 h1 ht e)) (by
      rcases R.heavy y i gy gi hyi hnr h1 k1 with q | q | ⟨o1, o2, e1, e2, e3, e4, e5, e6, e7⟩
      · exact .inl q
      · exact .inr (.inl q)
      · refine .inr (.inr ⟨o1, o2, e1, e2, e3, e4, e5, e6, ?_⟩)
        rcases e7 with e7 | ⟨w1, w2⟩
        · rw [freeB_congr hfy hfi]; exact disOk_spec hdis e7 h1 k1
        · exact freeB_none e1 e2 (w1 ts) (w2 ts))
    rw [opsI_intro k1 q1, List.cons_append, opsI_intro h1 q2]
    exact k3
end
end Go.Ab

/-! ## As17 -/
namespace Go.Ab
open Go.RowKit

/-- What a call that is told by content leaves as it was. -/
structure Ext0 (F : Fz) (w : World) (F' : Fz) (w' : World) : Prop where
  os : w'.os = w.os
  tape : w'.tape = w.tape
  output : w'.output = w.output
  size : w.heap.size ≤ w'.heap.size
  sub : ∀ b o, F b o → F' b o
  old : ∀ b, b < w.heap.size → w'.heap[b]? = w.heap[b]? ∧ ∀ o, F' b o → F b o
  flt : ∀ b o, F' b o → b < w'.heap.size

section
variable {F F' : Fz} {H : Hs} {h : Heap} {w w' : World} {d : Nat} {P : Program}

theorem Stp.of_ext0 (S : SR F H h w) (x : Ext0 F w F' w') : Stp F H h w F' H h w' := by
  have hcell : ∀ b o, F b o → w'.cell? ⟨b, o, none⟩ = w.cell? ⟨b, o, none⟩ := fun b o hb => cell_same (x.old b (S.flt b o hb)).1
  have hgoes : ∀ d i, Goes H w H h w' F' d i (getB h d i) := by
    intro d i
    have hown : ∀ sz n a cap, Own H w d i sz n a cap → Own H w' d i sz n a cap := by
      rintro sz n a cap (q | ⟨b, us, t, h1, h2, h3, h4⟩)
      · exact .inl q
      · exact .inr ⟨b, us, t, h1, h2, by rw [(x.old b (S.lt _ _ _ h1)).1]; exact h3, h4⟩
    cases hb : getB h d i with
    | none => trivial
    | vars cs => exact ⟨by rw [hb]; rfl, rfl⟩
    | arr sz n get => exact ⟨n, get, hb, Nat.le_refl _, fun _ _ => rfl, fun _ a cap => hown sz n a cap⟩
    | mar sz n get => exact .inl ⟨n, get, hb, Nat.le_refl _, fun _ => ⟨rfl, fun a cap => hown sz n a cap⟩⟩
    | far sz n get => exact hb
    | map f => have := S.blk d i; rw [hb] at this; exact this
  have hRO : ∀ A o v, RO F H h w A o v → RO F' H h w' A o v := fun A o v hr => hr.goes x.sub hcell (fun _ _ q => q) (fun d i _ => hgoes d i)
  refine ⟨⟨S.len, S.lens, S.inj, fun d i b hl => Nat.lt_of_lt_of_le (S.lt d i b hl) x.size, x.flt, fun d i => ?_⟩, ⟨x.os, x.tape, x.output, x.size, x.sub, hcell, fun b hb hu => ⟨(x.old b hb).1, (x.old b hb).2, hu⟩⟩, hRO, rfl, fun _ => Nat.le_refl _⟩
  have hold := S.blk d i
  have hrow : ∀ us sz n get, RowC F w us sz n get → RowC F' w' us sz n get := fun us sz n get hr => hr.mono x.sub hcell
  cases hb : getB h d i with
  | none => rw [hb] at hold; exact hold
  | vars cs =>
    rw [hb] at hold
    obtain ⟨b, us, t, h1, h2, h3, h4, h5⟩ := hold
    obtain ⟨k1, k2⟩ := x.old b (S.lt _ _ _ h1)
    exact ⟨b, us, t, h1, k1.trans h2, h3, fun o q => h4 o (k2 o q), fun j o u ho hu => hRO _ _ _ (h5 j o u ho hu)⟩
  | arr sz n get =>
    rw [hb] at hold
    rcases hold with q | ⟨b, us, t, h1, h2, h4, h5⟩
    · exact .inl q
    · obtain ⟨k1, k2⟩ := x.old b (S.lt _ _ _ h1)
      exact .inr ⟨b, us, t, h1, k1.trans h2, fun o => ⟨fun q => (h4 o).1 (k2 o q), fun q => x.sub _ _ ((h4 o).2 q)⟩, hrow _ _ _ _ h5⟩
  | mar sz n get =>
    rw [hb] at hold
    rcases hold with q | ⟨b, us, t, h1, h2, h4, h5⟩
    · exact .inl q
    · obtain ⟨k1, k2⟩ := x.old b (S.lt _ _ _ h1)
      exact .inr ⟨b, us, t, h1, k1.trans h2, fun o q => h4 o (k2 o q), hrow _ _ _ _ h5⟩
  | far sz n get => trivial
  | map f => rw [hb] at hold; exact hold

theorem AR.pres {H' : Hs} {h' : Heap} {ts : List O} {a : Array Value} (st : Stp F H h w F' H' h' w') (hA : AR F H h w d ts a) : AR F' H' h' w' d ts a := ⟨hA.len, hA.lim, fun t => st.pres _ _ _ (hA.val t)⟩
theorem AR.put {ts : List O} {a : Act} {o : O} {v : Value} (hA : AR F H h w d ts a.tmps) (hv : RO F H h w (AOk d) o v) (dst : Option Nat) : AR F H h w d (putO ts dst o) (a.put dst v).tmps := by
  cases dst with
  | none => exact hA
  | some t =>
    refine ⟨by simpa [putO, Act.put] using hA.len, by simpa [putO] using hA.lim, fun n => ?_⟩
    have hn := hA.val n
    simp only [putO, Act.put, List.getD_eq_getElem?_getD, Array.getD_eq_getD_getElem?] at hn ⊢
    by_cases e : t = n
    · subst e
      by_cases ht : t < ts.length
      · rw [List.getElem?_set_self ht]
        have : t < a.tmps.size := by rw [← hA.len]; exact ht
        simp only [Array.getElem?_setIfInBounds, Option.getD_some, if_true, this]
        exact hv
      · rw [List.getElem?_eq_none (by simp; omega)]
        exact .undef _
    · rw [List.getElem?_set_ne e, Array.getElem?_setIfInBounds_ne e]
      exact hn

/-- Where a piece of running stands: what has come since some beginning, and what the slots hold. -/
def At (P : Program) (F0 : Fz) (H0 : Hs) (h0 : Heap) (w0 : World) (d : Nat) (ts : List O) (s : St) (a : Act) (w : World) : Prop :=
  ∃ F H, Stp F0 H0 h0 w0 F H s.fr w ∧ AR F H s.fr w d ts a.tmps ∧ d < s.fr.length ∧ s.lp = [] ∧ a.defers = []

/-- How guards go together. -/
inductive TrGd (ops : Array Oper) : Option (Nat × Bool) → Option (Nat × Bool) → Prop
  | none : TrGd ops none none
  | some {j t : Nat} {b : Bool} (h : (ops[j]?).bind (·.dst) = some t) : TrGd ops (some (j, b)) (some (t, b))
def GuardSim (ts : List O) (x : Bool) : Option (Nat × Bool) → Prop
  | none => x = true
  | some (t, b) => match ts.getD t .undef with
    | .c (.bool b') => x = (b' == b)
    | .c (.tuple []) => x = false
    | _ => True
theorem guard_sim {ops : Array Oper} {o : Oper} {gd : Option (Nat × Bool)} {ts : List O} {a : Act} (hg : TrGd ops o.guard gd) (hA : AR F H h w d ts a.tmps) : GuardSim ts (Region.wanted o (yielded ops a.tmps)) gd := by
  cases e : o.guard with
  | none => rw [e] at hg; cases hg; simp [GuardSim, Region.wanted, e]
  | some p =>
    obtain ⟨j, b⟩ := p
    rw [e] at hg
    cases hg with
    | @some _ t _ hd =>
      simp only [GuardSim]
      have hv := hA.val t
      cases e2 : ts.getD t .undef with
      | c v =>
        rw [e2] at hv
        have hlt : t < a.tmps.size := by
          rcases Nat.lt_or_ge t a.tmps.size with q | q
          · exact q
          · rw [List.getD_eq_getElem?_getD, List.getElem?_eq_none (by rw [hA.len]; exact q)] at e2
            cases e2
        cases v with
        | bool b' =>
          have h3 := ro_bool hv
          rw [Array.getD_eq_getD_getElem?, Array.getElem?_eq_getElem hlt] at h3
          simp only [Option.getD_some] at h3
          simp only [Region.wanted, e, yielded, hd, Option.bind_some, Array.getElem?_eq_getElem hlt, h3]
          cases b' <;> cases b <;> rfl
        | tuple l =>
          cases l with
          | nil =>
            obtain ⟨us, h3, hl, _⟩ := ro_tuple hv
            have : us = [] := List.eq_nil_of_length_eq_zero (by simpa using hl)
            subst this
            rw [Array.getD_eq_getD_getElem?, Array.getElem?_eq_getElem hlt] at h3
            simp only [Option.getD_some] at h3
            simp only [Region.wanted, e, yielded, hd, Option.bind_some, Array.getElem?_eq_getElem hlt, h3]
            cases b <;> rfl
          | cons x y => trivial
        | _ => trivial
      | _ => trivial
end
end Go.Ab

/-! ## Am1 -/
namespace Go.Ab
open Go.RowKit

theorem getD_map_range {α : Type} (f : Nat → α) (n i : Nat) (z : α) : ((List.range n).map f).getD i z = if i < n then f i else z := by
  simp only [List.getD_eq_getElem?_getD, List.getElem?_map, List.getElem?_range]
  split
  · rename_i h; simp [List.getElem?_range h]
  · rename_i h; rw [List.getElem?_eq_none (by simpa using h)]; rfl
theorem maskB_getD (ids : List Nat) : ∀ (l : List Blk) (j i : Nat), (maskB j ids l).getD i .none = if ids.contains (j + i) = true then l.getD i .none else .none := by
  intro l
  induction l with
  | nil => intro j i; simp [maskB]
  | cons b r ih =>
    intro j i
    cases i with
    | zero => simp only [maskB, List.getD_cons_zero, Nat.add_zero]
    | succ i =>
      simp only [maskB, List.getD_cons_succ]
      rw [ih (j + 1) i, show j + 1 + i = j + (i + 1) by omega]
theorem maskB_length (ids : List Nat) : ∀ (l : List Blk) (j : Nat), (maskB j ids l).length = l.length := by
  intro l
  induction l with
  | nil => intro j; rfl
  | cons b r ih => intro j; simp [maskB, ih]

section
variable {F F2 : Fz} {H H2 : Hs} {h h2 : Heap} {w w2 : World} {P : Program} {ids : List Nat}

/-- The places of a part of memory. -/
def maskL (ids : List Nat) (H : Hs) : Hs := [(List.range (H.getD 0 []).length).map fun i => if ids.contains i = true then loc H 0 i else none]
def maskH (ids : List Nat) (h : Heap) : Heap := [maskB 0 ids (h.getD 0 [])]
def isFar : Blk → Bool
  | .far _ _ _ => true
  | _ => false
def isNone : Blk → Bool
  | .none => true
  | _ => false
def backL (ids : List Nat) (H H2 : Hs) (h2 : Heap) : Hs := [(List.range (H.getD 0 []).length).map fun i => if ids.contains i = true then (if isFar (getB h2 0 i) = true then none else loc H2 0 i) else loc H 0 i]
def backH (ids : List Nat) (h h2 : Heap) : Heap := setsB h (ids.map fun i => (0, i, getB h2 0 i))

theorem getB_maskH (d i : Nat) : getB (maskH ids h) d i = if d = 0 ∧ i ∈ ids then getB h 0 i else .none := by
  unfold getB maskH
  cases d with
  | zero => simp only [List.getD_cons_zero, maskB_getD, Nat.zero_add, List.contains_iff_mem, true_and]
  | succ d => simp
theorem loc_maskL (hin : ∀ i, loc H 0 i ≠ none → i < (H.getD 0 []).length) (d i : Nat) : loc (maskL ids H) d i = if d = 0 ∧ i ∈ ids then loc H 0 i else none := by
  unfold maskL
  cases d with
  | zero =>
    show ((List.range (H.getD 0 []).length).map fun i => if ids.contains i = true then loc H 0 i else none).getD i none = _
    rw [getD_map_range]
    simp only [List.contains_iff_mem, true_and]
    by_cases hi : i < (H.getD 0 []).length
    · rw [if_pos hi]
    · rw [if_neg hi]
      split
      · cases e : loc H 0 i with
        | none => rfl
        | some b => exact absurd (hin i (by rw [e]; simp)) hi
      · rfl
  | succ d => unfold loc; simp
theorem loc_in (H : Hs) (i : Nat) (hl : loc H 0 i ≠ none) : i < (H.getD 0 []).length := by
  unfold loc at hl
  rcases Nat.lt_or_ge i (H.getD 0 []).length with q | q
  · exact q
  · rw [List.getD_eq_getElem?_getD (l := H.getD 0 []), List.getElem?_eq_none q] at hl
    exact absurd rfl hl
theorem loc_backL (hl : H.length = 1) (hids : ∀ i ∈ ids, i < (H.getD 0 []).length) (d i : Nat) : loc (backL ids H H2 h2) d i = if d = 0 ∧ i ∈ ids then (if isFar (getB h2 0 i) = true then none else loc H2 0 i) else loc H d i := by
  unfold backL
  cases d with
  | zero =>
    show ((List.range (H.getD 0 []).length).map fun i => if ids.contains i = true then (if isFar (getB h2 0 i) = true then none else loc H2 0 i) else loc H 0 i).getD i none = _
    rw [getD_map_range]
    simp only [List.contains_iff_mem, true_and]
    by_cases hi : i < (H.getD 0 []).length
    · rw [if_pos hi]
    · rw [if_neg hi]
      split
      · rename_i q; exact absurd (hids i q) hi
      · cases e : loc H 0 i with
        | none => rfl
        | some b => exact absurd (loc_in H i (by rw [e]; simp)) hi
  | succ d =>
    rw [if_neg (by omega)]
    have : loc H (d + 1) i = none := by unfold loc; rw [List.getD_eq_getElem?_getD (l := H), List.getElem?_eq_none (by omega)]; rfl
    rw [this]; unfold loc; simp
theorem getB_backH (hids : ∀ i ∈ ids, getB h 0 i ≠ .none) (d i : Nat) : getB (backH ids h h2) d i = if d = 0 ∧ i ∈ ids then getB h2 0 i else getB h d i := by
  unfold backH
  have key : ∀ (l : List Nat) (h : Heap), (∀ i ∈ l, 0 < h.length ∧ i < (h.getD 0 []).length) → getB (setsB h (l.map fun i => (0, i, getB h2 0 i))) d i = if d = 0 ∧ i ∈ l then getB h2 0 i else getB h d i := by
    intro l
    induction l with
    | nil => intro h _; simp [setsB]
    | cons a r ih =>
      intro h hin
      obtain ⟨ha1, ha2⟩ := hin a (by simp)
      have : setsB h ((a :: r).map fun i => (0, i, getB h2 0 i)) = setsB (setB h 0 a (getB h2 0 a)) (r.map fun i => (0, i, getB h2 0 i)) := rfl
      rw [this, ih _ (fun i hi => by
        obtain ⟨q1, q2⟩ := hin i (List.mem_cons_of_mem _ hi)
        exact ⟨by rw [len_setB]; exact q1, by rw [lens_setB]; exact q2⟩), getB_setB h 0 a _ ha1 ha2]
      by_cases e : d = 0
      · subst e
        simp only [true_and, List.mem_cons]
        by_cases e2 : i ∈ r
        · simp [e2]
        · by_cases e3 : i = a
          · subst e3; simp
          · simp [e2, e3]
      · simp [e]
  exact key ids h fun i hi => getB_in (hids i hi)

theorem inO_sim {A : Nat → Nat → Prop} {o : O} {v : Value} (hr : RO F H h w A o v) : ∀ k, inO ids k o = true → RO F H h w (fun d i => A d i ∧ d = 0 ∧ i ∈ ids) o v := by
  have b : ∀ {dd i : Nat}, (dd == 0 && ids.contains i) = true → (dd = 0 ∧ i ∈ ids) := by
    intro dd i h
    simp only [Bool.and_eq_true, beq_iff_eq, List.contains_iff_mem] at h
    exact h
  induction hr with
  | c hv => exact fun _ _ => .c hv
  | undef u => exact fun _ _ => .undef u
  | nils a => exact fun _ _ => .nils a
  | ref hA hk hl => exact fun k e => .ref ⟨hA, b (by cases k <;> simpa [inO] using e)⟩ hk hl
  | eref hA ha => exact fun k e => .eref ⟨hA, b (by cases k <;> simpa [inO] using e)⟩ ha
  | arr hA hs hr => exact fun k e => .arr ⟨hA, b (by cases k <;> simpa [inO] using e)⟩ hs hr
  | vsl hA hk hl hn ho => exact fun k e => .vsl ⟨hA, b (by cases k <;> simpa [inO] using e)⟩ hk hl hn ho
  | func ha hb hva hvb iha ihb =>
    intro k e
    cases k with
    | zero => simp [inO] at e
    | succ k =>
      simp only [inO, Bool.and_eq_true, List.all_eq_true] at e
      exact .func ha hb (fun j c u hc hu => iha j c u hc hu k (e.1 c (List.mem_of_getElem? hc))) (fun j c u hc hu => ihb j c u hc hu k (e.2 c (List.mem_of_getElem? hc)))
  | agg hl hv ih =>
    intro k e
    cases k with
    | zero => simp [inO] at e
    | succ k =>
      simp only [inO, List.all_eq_true] at e
      exact .agg hl (fun j c u hc hu => ih j c u hc hu k (e c (List.mem_of_getElem? hc)))
  | tuple hl hv ih =>
    intro k e
    cases k with
    | zero => simp [inO] at e
    | succ k =>
      simp only [inO, List.all_eq_true] at e
      exact .tuple hl (fun j c u hc hu => ih j c u hc hu k (e c (List.mem_of_getElem? hc)))

/-- A value whose ways lead where nothing has turned, but for what is finished. -/
theorem RO.stay2 {H' : Hs} {h' : Heap} {A : Nat → Nat → Prop} (hg : ∀ d i, A d i → getB h' d i = getB h d i) (hl : ∀ d i, A d i → isFar (getB h d i) = false → loc H' d i = loc H d i) {o : O} {v : Value} (hr : RO F H h w A o v) : RO F H' h' w A o v := by
  have own : ∀ {d i sz n : Nat} {a : Option Addr} {cap : Nat}, A d i → isFar (getB h d i) = false → Own H w d i sz n a cap → Own H' w d i sz n a cap := by
    intro d i sz n a cap q q2 hO
    rcases hO with ⟨q1, q2', q3⟩ | ⟨b, us, t, h1, h2⟩
    · exact .inl ⟨q1, q2', (hl _ _ q q2).trans q3⟩
    · exact .inr ⟨b, us, t, (hl _ _ q q2).trans h1, h2⟩
  induction hr with
  | c hv => exact .c hv
  | undef u => exact .undef u
  | nils a => exact .nils a
  | @ref d i off b q hk hl' => exact .ref q (by rw [hg _ _ q]; exact hk) ((hl _ _ q (by revert hk; cases getB h d i <;> simp [isVars, isFar])).trans hl')
  | @eref d i n e off a q ha =>
    refine .eref q ?_
    unfold ElemAt at ha ⊢
    rw [hg _ _ q]
    cases hb : getB h d i with
    | mar sz' n' get =>
      rw [hb] at ha
      refine ⟨ha.1, fun q2 => ?_⟩
      obtain ⟨k1, b, k2, k3⟩ := ha.2 q2
      exact ⟨k1, b, (hl _ _ q (by rw [hb]; rfl)).trans k2, k3⟩
    | _ => rw [hb] at ha; exact ha
  | @arr d i sz n cap a q hs hr =>
    refine .arr q hs ?_
    unfold RowAt at hr ⊢
    rw [hg _ _ q]
    cases hb : getB h d i with
    | arr sz' n' get => rw [hb] at hr; obtain ⟨q1, q2, q3, q4, q5⟩ := hr; exact ⟨q1, q2, q3, q4, fun e => own q (by rw [hb]; rfl) (q5 e)⟩
    | mar sz' n' get => rw [hb] at hr; obtain ⟨q1, q2, q3⟩ := hr; exact ⟨q1, q2, fun e => own q (by rw [hb]; rfl) (q3 e)⟩
    | _ => rw [hb] at hr; exact hr
  | @vsl d i off off' n sz b cap q hk hl' hn ho => exact .vsl q (by rw [hg _ _ q]; exact hk) ((hl _ _ q (by revert hk; cases getB h d i <;> simp [isVars, isFar])).trans hl') hn ho
  | func ha hb hva hvb iha ihb => exact .func ha hb iha ihb
  | agg hl hv ih => exact .agg hl ih
  | tuple hl hv ih => exact .tuple hl ih

/-- A part of memory is memory. -/
theorem mask_SR (S : SR F H h w) (hb : ∀ i ∈ ids, inB ids (getB h 0 i) = true) : SR F (maskL ids H) (maskH ids h) w ∧ ∀ o v, RO F H h w (fun d i => d = 0 ∧ i ∈ ids) o v → RO F (maskL ids H) (maskH ids h) w (fun d i => d = 0 ∧ i ∈ ids) o v := by
  have hl := loc_maskL (H := H) (ids := ids) (loc_in H)
  have hg := getB_maskH (h := h) (ids := ids)
  have stay : ∀ o v, RO F H h w (fun d i => d = 0 ∧ i ∈ ids) o v → RO F (maskL ids H) (maskH ids h) w (fun d i => d = 0 ∧ i ∈ ids) o v := fun o v hr =>
    RO.stay2 (fun d i q => by rw [hg, if_pos q, q.1]) (fun d i q _ => by rw [hl, if_pos q, q.1]) hr
  have hloc : ∀ {d i b : Nat}, loc (maskL ids H) d i = some b → (d = 0 ∧ i ∈ ids) ∧ loc H 0 i = some b := by
    intro d i b q
    rw [hl] at q
    split at q
    · exact ⟨‹_›, q⟩
    · cases q
  refine ⟨⟨rfl, fun d => ?_, fun d i d' i' b q1 q2 => ?_, fun d i b q => S.lt 0 i b (hloc q).2, S.flt, fun d i => ?_⟩, stay⟩
  · cases d with
    | zero =>
      show ((List.range (H.getD 0 []).length).map _).length = (maskB 0 ids (h.getD 0 [])).length
      rw [maskB_length, List.length_map, List.length_range]
      exact S.lens 0
    | succ d => rfl
  · obtain ⟨k1, k2⟩ := hloc q1
    obtain ⟨k3, k4⟩ := hloc q2
    exact ⟨by omega, (S.inj _ _ _ _ _ k2 k4).2⟩
  · rw [hg]
    split
    · rename_i q
      obtain ⟨rfl, hi⟩ := q
      have hl' : loc (maskL ids H) 0 i = loc H 0 i := by rw [hl, if_pos ⟨rfl, hi⟩]
      have hold := S.blk 0 i
      have hin := hb i hi
      cases hB : getB h 0 i with
      | none => rw [hB] at hold; exact hl'.trans hold
      | vars cs =>
        rw [hB] at hold hin
        obtain ⟨b, us, t, h1, h2, h3, h4, h5⟩ := hold
        simp only [inB, List.all_eq_true] at hin
        exact ⟨b, us, t, hl'.trans h1, h2, h3, h4, fun j o u ho hu => (stay o u ((inO_sim (h5 j o u ho hu) 9 (hin o (List.mem_of_getElem? ho))).monoA fun d i q => q.2)).monoA fun d i q => by omega⟩
      | arr sz n get =>
        rw [hB] at hold
        rcases hold with ⟨q1, q2⟩ | ⟨b, us, t, h1, h2⟩
        · exact .inl ⟨q1, hl'.trans q2⟩
        · exact .inr ⟨b, us, t, hl'.trans h1, h2⟩
      | mar sz n get =>
        rw [hB] at hold
        rcases hold with ⟨q1, q2⟩ | ⟨b, us, t, h1, h2⟩
        · exact .inl ⟨q1, hl'.trans q2⟩
        · exact .inr ⟨b, us, t, hl'.trans h1, h2⟩
      | far sz n get => trivial
      | map f => rw [hB] at hold; exact hold
    · rename_i q
      show loc _ _ _ = none
      rw [hl, if_neg q]

/-- The part laid back. -/
theorem back_Stp (S : SR F H h w) (h1 : h.length = 1) (hb : ∀ i ∈ ids, inB ids (getB h 0 i) = true) (st : Stp F (maskL ids H) (maskH ids h) w F2 H2 h2 w2) (hb2 : ∀ i ∈ ids, inB ids (getB h2 0 i) = true) :
    Stp F H h w F2 (backL ids H H2 h2) (backH ids h h2) w2 := by
  have S2 := st.sr
  have hnn : ∀ i ∈ ids, getB h 0 i ≠ .none := fun i hi e => by have := hb i hi; rw [e] at this; simp [inB] at this
  have hnn2 : ∀ i ∈ ids, getB h2 0 i ≠ .none := fun i hi e => by have := hb2 i hi; rw [e] at this; simp [inB] at this
  have hl := loc_backL (H := H) (H2 := H2) (h2 := h2) (ids := ids) (by rw [S.len]; exact h1) (fun i hi => by rw [S.lens]; exact (getB_in (hnn i hi)).2)
  have hg := getB_backH (h := h) (h2 := h2) (ids := ids) hnn
  have hml := loc_maskL (H := H) (ids := ids) (loc_in H)
  have hmg := getB_maskH (h := h) (ids := ids)
  obtain ⟨mS, mRO⟩ := mask_SR S hb
  -- what is not handed over is not used by it
  have hnu : ∀ {d i b : Nat}, ¬ (d = 0 ∧ i ∈ ids) → loc H d i = some b → ¬ Used (maskL ids H) (maskH ids h) b := by
    rintro d i b hn q ⟨d', i', k1, k2⟩
    rw [hml] at k1
    split at k1
    · rename_i k3
      have := S.inj _ _ _ _ _ q k1
      exact hn ⟨this.1, by rw [this.2]; exact k3.2⟩
    · cases k1
  have hheap : ∀ {d i b : Nat}, ¬ (d = 0 ∧ i ∈ ids) → loc H d i = some b → w2.heap[b]? = w.heap[b]? ∧ ∀ o, F2 b o → F b o := fun hn q => by
    obtain ⟨k1, k2, _⟩ := st.ext.old _ (S.lt _ _ _ q) (hnu hn q)
    exact ⟨k1, k2⟩
  have hown : ∀ {d i sz n : Nat} {a : Option Addr} {cap : Nat}, ¬ (d = 0 ∧ i ∈ ids) → Own H w d i sz n a cap → Own (backL ids H H2 h2) w2 d i sz n a cap := by
    intro d i sz n a cap hn hO
    have hl' : loc (backL ids H H2 h2) d i = loc H d i := by rw [hl, if_neg hn]
    rcases hO with ⟨q1, q2, q3⟩ | ⟨b, us, t, k1, k2, k3, k4⟩
    · exact .inl ⟨q1, q2, hl'.trans q3⟩
    · exact .inr ⟨b, us, t, hl'.trans k1, k2, by rw [(hheap hn k1).1]; exact k3, k4⟩
  have one : ∀ {A : Nat → Nat → Prop} {o : O} {v : Value} (d i : Nat), (d = 0 → A 0 i → d = 0 → True) → RO F H h w (fun d' i' => A d' i' ∧ d' = d ∧ i' = i) o v → RO F2 (backL ids H H2 h2) (backH ids h h2) w2 A o v := by
    intro A o v d i _ hr
    by_cases hin : d = 0 ∧ i ∈ ids
    · obtain ⟨rfl, hi⟩ := hin
      have r1 := mRO o v (hr.monoA fun d' i' q => ⟨q.2.1, by rw [q.2.2]; exact hi⟩)
      -- the same, with what it is known to lead to
      have r2 : RO F (maskL ids H) (maskH ids h) w (fun d' i' => A d' i' ∧ d' = 0 ∧ i' = i) o v := RO.stay2 (fun d' i' q => by rw [hmg, if_pos ⟨q.2.1, by rw [q.2.2]; exact hi⟩, q.2.1]) (fun d' i' q _ => by rw [hml, if_pos ⟨q.2.1, by rw [q.2.2]; exact hi⟩, q.2.1]) hr
      have r3 := st.pres _ _ _ r2
      refine (RO.stay2 (H' := backL ids H H2 h2) (h' := backH ids h h2) (fun d' i' q => ?_) (fun d' i' q q2 => ?_) r3).monoA fun d' i' q => q.1
      · rw [hg, if_pos ⟨q.2.1, by rw [q.2.2]; exact hi⟩, q.2.1]
      · rw [hl, if_pos ⟨q.2.1, by rw [q.2.2]; exact hi⟩, q.2.1]
        rw [q.2.1] at q2
        rw [if_neg (by rw [q2]; simp)]
    · refine (hr.goes (F' := F2) (H' := backL ids H H2 h2) (h' := backH ids h h2) (w' := w2) st.ext.sub st.ext.fix (fun _ _ q => q) (fun d' i' q => ?_)).monoA fun d' i' q => q.1
      have hn : ¬ (d' = 0 ∧ i' ∈ ids) := by rw [q.2.1, q.2.2]; exact hin
      have hg' : getB (backH ids h h2) d' i' = getB h d' i' := by rw [hg, if_neg hn]
      have hl' : loc (backL ids H H2 h2) d' i' = loc H d' i' := by rw [hl, if_neg hn]
      cases hB : getB h d' i' with
      | none => trivial
      | vars cs => exact ⟨by rw [hg', hB]; rfl, hl'⟩
      | arr sz n get => exact ⟨n, get, hg'.trans hB, Nat.le_refl _, fun _ _ => rfl, fun _ a cap => hown hn⟩
      | mar sz n get => exact .inl ⟨n, get, hg'.trans hB, Nat.le_refl _, fun _ => ⟨hl', fun a cap => hown hn⟩⟩
      | far sz n get => exact hg'.trans hB
      | map f => have := S.blk d' i'; rw [hB] at this; exact this
  have main : ∀ {A : Nat → Nat → Prop} {o : O} {v : Value}, RO F H h w A o v → RO F2 (backL ids H H2 h2) (backH ids h h2) w2 A o v := by
    intro A o v hr
    induction hr with
    | c hv => exact .c (hv.mono st.ext.sub st.ext.fix)
    | undef u => exact .undef u
    | nils a => exact .nils a
    | @ref d i off b q hk hl' => exact one d i (fun _ _ _ => trivial) (.ref ⟨q, rfl, rfl⟩ hk hl')
    | @eref d i n e off a q ha => exact one d i (fun _ _ _ => trivial) (.eref ⟨q, rfl, rfl⟩ ha)
    | @arr d i sz n cap a q hs hr => exact one d i (fun _ _ _ => trivial) (.arr ⟨q, rfl, rfl⟩ hs hr)
    | @vsl d i off off' n sz b cap q hk hl' hn ho => exact one d i (fun _ _ _ => trivial) (.vsl ⟨q, rfl, rfl⟩ hk hl' hn ho)
    | func ha hb hva hvb iha ihb => exact .func ha hb iha ihb
    | agg hl hv ih => exact .agg hl ih
    | tuple hl hv ih => exact .tuple hl ih
  have inner : ∀ {o : O} {v : Value}, RO F2 H2 h2 w2 (fun d i => d = 0 ∧ i ∈ ids) o v → RO F2 (backL ids H H2 h2) (backH ids h h2) w2 (fun d i => d = 0 ∧ i ∈ ids) o v := fun hr =>
    RO.stay2 (fun d i q => by rw [hg, if_pos q, q.1]) (fun d i q q2 => by rw [hl, if_pos q, q.1]; rw [q.1] at q2; rw [if_neg (by rw [q2]; simp)]) hr
  have u2 : ∀ {i b : Nat}, i ∈ ids → isFar (getB h2 0 i) = false → loc H2 0 i = some b → Used H2 h2 b := fun {i b} hi q1 q2 =>
    ⟨0, i, q2, by have := hnn2 i hi; revert q1 this; cases getB h2 0 i <;> simp [isFar]⟩
  have hcase : ∀ {d i b : Nat}, loc (backL ids H H2 h2) d i = some b → (d = 0 ∧ i ∈ ids ∧ isFar (getB h2 0 i) = false ∧ loc H2 0 i = some b) ∨ (¬ (d = 0 ∧ i ∈ ids) ∧ loc H d i = some b) := by
    intro d i b q
    rw [hl] at q
    split at q
    · rename_i q2
      split at q
      · cases q
      · rename_i q3
        exact .inl ⟨q2.1, q2.2, by simpa using q3, q⟩
    · exact .inr ⟨‹_›, q⟩
  refine ⟨⟨?_, fun d => ?_, fun d i d' i' b q1 q2 => ?_, fun d i b q => ?_, S2.flt, fun d i => ?_⟩, ⟨st.ext.os, st.ext.tape, st.ext.output, st.ext.size, st.ext.sub, st.ext.fix, fun b hbs hu => ?_⟩, fun A o v hr => main hr, ?_, fun d => ?_⟩
  · simp [backL, backH, (len_setsB _ h).1, h1]
  · cases d with
    | zero =>
      show ((List.range (H.getD 0 []).length).map _).length = _
      rw [backH, (len_setsB _ h).2 0, List.length_map, List.length_range]
      exact S.lens 0
    | succ d =>
      rw [backH, (len_setsB _ h).2 (d + 1)]
      rw [List.getD_eq_getElem?_getD (l := h), List.getElem?_eq_none (by omega)]
      rfl
  · rcases hcase q1 with ⟨a1, a2, a3, a4⟩ | ⟨a1, a2⟩ <;> rcases hcase q2 with ⟨b1, b2, b3, b4⟩ | ⟨b1, b2⟩
    · exact ⟨by omega, (S2.inj _ _ _ _ _ a4 b4).2⟩
    · exact absurd (u2 a2 a3 a4) (st.ext.old b (S.lt _ _ _ b2) (hnu b1 b2)).2.2
    · exact absurd (u2 b2 b3 b4) (st.ext.old b (S.lt _ _ _ a2) (hnu a1 a2)).2.2
    · exact S.inj _ _ _ _ _ a2 b2
  · rcases hcase q with ⟨a1, a2, a3, a4⟩ | ⟨a1, a2⟩
    · exact S2.lt _ _ _ a4
    · exact Nat.lt_of_lt_of_le (S.lt _ _ _ a2) st.ext.size
  · rw [hg]
    split
    · rename_i q
      obtain ⟨rfl, hi⟩ := q
      have hold := S2.blk 0 i
      have hin := hb2 i hi
      have hl' : isFar (getB h2 0 i) = false → loc (backL ids H H2 h2) 0 i = loc H2 0 i := fun e => by rw [hl, if_pos ⟨rfl, hi⟩, if_neg (by rw [e]; simp)]
      cases hB : getB h2 0 i with
      | none => exact absurd hB (hnn2 i hi)
      | vars cs =>
        rw [hB] at hold hin hl'
        obtain ⟨b, us, t, k1, k2, k3, k4, k5⟩ := hold
        simp only [inB, List.all_eq_true] at hin
        exact ⟨b, us, t, (hl' rfl).trans k1, k2, k3, k4, fun j o u ho hu => (inner ((inO_sim (k5 j o u ho hu) 9 (hin o (List.mem_of_getElem? ho))).monoA fun d i q => q.2)).monoA fun d i q => by omega⟩
      | arr sz n get =>
        rw [hB] at hold hl'
        rcases hold with ⟨q1, q2⟩ | ⟨b, us, t, k1, k2⟩
        · exact .inl ⟨q1, (hl' rfl).trans q2⟩
        · exact .inr ⟨b, us, t, (hl' rfl).trans k1, k2⟩
      | mar sz n get =>
        rw [hB] at hold hl'
        rcases hold with ⟨q1, q2⟩ | ⟨b, us, t, k1, k2⟩
        · exact .inl ⟨q1, (hl' rfl).trans q2⟩
        · exact .inr ⟨b, us, t, (hl' rfl).trans k1, k2⟩
      | far sz n get => trivial
      | map f => rw [hB] at hold; exact hold
    · rename_i hn
      have hl' : loc (backL ids H H2 h2) d i = loc H d i := by rw [hl, if_neg hn]
      have hold := S.blk d i
      cases hB : getB h d i with
      | none => rw [hB] at hold; exact hl'.trans hold
      | vars cs =>
        rw [hB] at hold
        obtain ⟨b, us, t, k1, k2, k3, k4, k5⟩ := hold
        obtain ⟨e1, e2⟩ := hheap hn k1
        exact ⟨b, us, t, hl'.trans k1, e1.trans k2, k3, fun o q => k4 o (e2 o q), fun j o u ho hu => main (k5 j o u ho hu)⟩
      | arr sz n get =>
        rw [hB] at hold
        rcases hold with ⟨q1, q2⟩ | ⟨b, us, t, k1, k2, k3, k4⟩
        · exact .inl ⟨q1, hl'.trans q2⟩
        · obtain ⟨e1, e2⟩ := hheap hn k1
          exact .inr ⟨b, us, t, hl'.trans k1, e1.trans k2, fun o => ⟨fun q => (k3 o).1 (e2 o q), fun q => st.ext.sub _ _ ((k3 o).2 q)⟩, k4.mono st.ext.sub st.ext.fix⟩
      | mar sz n get =>
        rw [hB] at hold
        rcases hold with ⟨q1, q2⟩ | ⟨b, us, t, k1, k2, k3, k4⟩
        · exact .inl ⟨q1, hl'.trans q2⟩
        · obtain ⟨e1, e2⟩ := hheap hn k1
          exact .inr ⟨b, us, t, hl'.trans k1, e1.trans k2, fun o q => k3 o (e2 o q), k4.mono st.ext.sub st.ext.fix⟩
      | far sz n get => trivial
      | map f => rw [hB] at hold; exact hold
  · have hu' : ¬ Used (maskL ids H) (maskH ids h) b := by
      rintro ⟨d, i, k1, k2⟩
      rw [hml] at k1
      rw [hmg] at k2
      split at k1
      · rename_i q
        rw [if_pos q] at k2
        exact hu ⟨0, i, k1, k2⟩
      · cases k1
    obtain ⟨k1, k2, k3⟩ := st.ext.old b hbs hu'
    refine ⟨k1, k2, ?_⟩
    rintro ⟨d, i, q1, q2⟩
    rcases hcase q1 with ⟨a1, a2, a3, a4⟩ | ⟨a1, a2⟩
    · exact k3 (u2 a2 a3 a4)
    · rw [hg, if_neg a1] at q2
      exact hu ⟨d, i, a2, q2⟩
  · rw [backH, (len_setsB _ h).1]
  · rw [backH, (len_setsB _ h).2 d]
    exact Nat.le_refl _
end
end Go.Ab

/-! ## As18 -/
namespace Go.Ab
open Go.RowKit

/-- A function that is entered when it is called. -/
def Ent (P : Program) (f : FuncId) : Prop := ∀ args w, (callFunc f args).run P w = .ok (.enter f args) w
theorem Ent.of {P : Program} {f : FuncId} {fn : Func} (hf : P.funcs[f]? = some fn) (hn : (fn.name == "runtime.NumGoroutine") = false) (hb : fn.body.isNone = false) : Ent P f := by
  intro args w
  simp [callFunc, Sem.run_bind, run_program, hf]
  simp only [beq_eq_false_iff_ne, ne_eq] at hn
  simp [hn, hb]
  intro h; rw [h] at hb; cases hb

def SoundPure (P : Program) (E : Env) : Prop := ∀ f args v, E.pure f args = some v → Ent P f ∧ ∀ (F : Fz) (w : World) (us : List Value), us.length = args.length → (∀ (j : Nat) (c : C) (u : Value), args[j]? = some c → us[j]? = some u → VR F w c u) →
  (∀ b o, F b o → b < w.heap.size) → CallsIn Fence.wide 0 P f us.toArray w fun e w' => ∃ u F', e = .returned u ∧ VR F' w' v u ∧ Ext0 F w F' w'
def SoundRich (P : Program) (E : Env) : Prop := ∀ d f args s o s', E.rich d f args s = some (o, s') → d < s.fr.length → s.lp = [] → Ent P f ∧ ∀ (F : Fz) (H : Hs) (w : World) (us : List Value), SR F H s.fr w → ROs F H s.fr w (AOk d) args us →
  CallsIn Fence.wide 0 P f us.toArray w fun e w' => ∃ u F' H', e = .returned u ∧ s'.lp = [] ∧ s'.fr.length = s.fr.length ∧ Stp F H s.fr w F' H' s'.fr w' ∧ RO F' H' s'.fr w' (AOk d) o u

section
variable {F F' : Fz} {H : Hs} {h : Heap} {w w' : World} {d : Nat} {P : Program} {ts : List O} {a : Act}

inductive TrArgs : List Operand → List (Arg × PT) → Prop
  | nil : TrArgs [] []
  | cons {x : Operand} {y : Arg} {pt : PT} {l : List Operand} {m : List (Arg × PT)} (h : TrA x y) (t : TrArgs l m) : TrArgs (x :: l) ((y, pt) :: m)
theorem restArgs_sim {ok : Bool} {xs : List Operand} {l : List (Arg × PT)} (ht : TrArgs xs l) : ∀ {os : List O} {F : Fz} {H : Hs} {h h' : Heap}, SR F H h w → AR F H h w d ts a.tmps → restArgs ok ts l h = some (os, h') →
    ∃ F' H', Stp F H h w F' H' h' w ∧ ROs F' H' h' w (AOk d) os (xs.map a.eval) := by
  induction ht with
  | nil =>
    intro os F H h h' S hA hk
    simp only [restArgs, Option.some.injEq, Prod.mk.injEq] at hk
    obtain ⟨rfl, rfl⟩ := hk
    exact ⟨F, H, Stp.refl S, ROs.nil⟩
  | @cons x y pt xs m hx t ih =>
    intro os F H h h' S hA hk
    simp only [restArgs] at hk
    split at hk <;> try (cases hk; done)
    rename_i o1 h1 e1
    split at hk <;> try (cases hk; done)
    rename_i l2 h2 e2
    cases hk
    obtain ⟨F1, H1, k1, k2⟩ := restO_sim S (hx.ro hA) e1
    obtain ⟨F2, H2, k3, k4⟩ := ih k1.sr (AR.pres k1 hA) e2
    exact ⟨F2, H2, k1.trans k3, ROs.cons (k3.pres _ _ _ k2) k4⟩
theorem TrArgs.ro {xs : List Operand} {l : List (Arg × PT)} (ht : TrArgs xs l) (hA : AR F H h w d ts a.tmps) : ROs F H h w (AOk d) (l.map fun p => rd ts p.1) (xs.map a.eval) := by
  induction ht with
  | nil => exact ROs.nil
  | cons hx t ih => exact ROs.cons (hx.ro hA) ih
theorem splitO_sim {A : Nat → Nat → Prop} {o : O} {v : Value} {f : FuncId} {x y : List O} (hr : RO F H h w A o v) (hs : splitO o = some (f, x, y)) : ∃ us vs : List Value, v = .func (.func f) us.toArray vs.toArray ∧ ROs F H h w A x us ∧ ROs F H h w A y vs := by
  unfold splitO at hs
  split at hs <;> cases hs
  · obtain ⟨us, vs, rfl, h1, h2, h3, h4⟩ := ro_func hr
    exact ⟨us, vs, rfl, ROs.of_c h1 h3, ROs.of_c h2 h4⟩
  · obtain ⟨us, vs, rfl, h1, h2, h3, h4⟩ := ro_funcO hr
    exact ⟨us, vs, rfl, ⟨h1, h3⟩, ⟨h2, h4⟩⟩
/-- What a call does first. -/
theorem run_call {o : Oper} {f : Operand} {xs : Array Operand} {tys : Array TypeId} {g : FuncId} {us vs : List Value} (ho : o.op = .call { callee := .value f, args := xs, argTypes := tys }) (hf : a.eval f = .func (.func g) us.toArray vs.toArray) (he : Ent P g) :
    (execOp a.eval o).run P w = .ok (.enter g (us ++ xs.toList.map a.eval ++ vs).toArray) w := by
  have := he ((us.toArray ++ xs.map a.eval) ++ vs.toArray) w
  simp only [execOp, ho, resolve, hf, Deferred.ofValue, Sem.run_bind, Sem.run_pure, Result.andThen_ok, invoke]
  rw [this]
  congr 2
  rw [← Array.toList_inj]
  simp
theorem ROs.pureV {A : Nat → Nat → Prop} {cs : List C} {us : List Value} (hr : ROs F H h w A (cs.map O.c) us) : us.length = cs.length ∧ ∀ (j : Nat) (c : C) (u : Value), cs[j]? = some c → us[j]? = some u → VR F w c u :=
  ⟨by simpa using hr.1, fun j c u hc hu => by
    have := hr.2 j (.c c) u (by simp [hc]) hu
    cases this with | c hv => exact hv⟩

/-- The fence of everything, in a round or not. -/
def Wd (ro : Option Nat) : Fence := { Fence.wide with round := ro }
theorem callsIn_wd {ro : Option Nat} {f : FuncId} {args : Array Value} {w : World} {R : Ending → World → Prop} (h : CallsIn Fence.wide 0 P f args w R) : CallsIn (Wd ro) 0 P f args w R := h

inductive TrC : Op → HOp → Prop
  | call {f : Operand} {xs : Array Operand} {tys : Array TypeId} {f' : Arg} {l : List (Arg × PT)} (hf : TrA f f') (hx : TrArgs xs.toList l) : TrC (.call { callee := .value f, args := xs, argTypes := tys }) (.call f' l)
  | callQ {f : Operand} {xs : Array Operand} {tys : Array TypeId} {f' : Arg} {l : List (Arg × PT)} (hf : TrA f f') (hx : TrArgs xs.toList l) : TrC (.call { callee := .value f, args := xs, argTypes := tys }) (.callQ f' l)
  | callM {f : Operand} {xs : Array Operand} {tys : Array TypeId} {f' : Arg} {l : List (Arg × PT)} (hf : TrA f f') (hx : TrArgs xs.toList l) : TrC (.call { callee := .value f, args := xs, argTypes := tys }) (.callM f' l)

/-- What an operation is to do. -/
def OpDone (P : Program) (ro : Option Nat) (o : Oper) (Q : Exit → Act → World → Prop) (a : Act) (w : World) (N : Value → World → Prop) : Prop :=
  ∀ next : Act → World → Prop, (∀ v w', N v w' → next (a.put o.dst v) w') → o.uponIn (Wd ro) 0 P a next Q ((execOp a.eval o).run P w)
theorem OpDone.value {ro : Option Nat} {o : Oper} {Q : Exit → Act → World → Prop} {N : Value → World → Prop} {v : Value} (hv : (execOp a.eval o).run P w = .ok (.value v) w') (h : N v w') : OpDone P ro o Q a w N := by
  intro next hn
  rw [hv, Oper.uponIn_value]; exact hn _ _ h
theorem OpDone.skip {ro : Option Nat} {o : Oper} {Q : Exit → Act → World → Prop} {N : Value → World → Prop} (hv : (execOp a.eval o).run P w = .ok .skip w') (h : N undef w') : OpDone P ro o Q a w N := by
  intro next hn
  rw [hv, Oper.uponIn_skip]; exact hn _ _ h
theorem OpDone.enter {ro : Option Nat} {o : Oper} {Q : Exit → Act → World → Prop} {N : Value → World → Prop} {f : FuncId} {args : Array Value} {R : Ending → World → Prop} (hv : (execOp a.eval o).run P w = .ok (.enter f args) w) (hc : CallsIn Fence.wide 0 P f args w R)
    (h : ∀ e w', R e w' → ∃ u, e = .returned u ∧ N u w') : OpDone P ro o Q a w N := by
  intro next hn
  rw [hv, Oper.uponIn_enter]
  refine ⟨fun q => by simp [Wd, Fence.wide] at q, ?_⟩
  refine CallsIn.mono (callsIn_wd (ro := ro) hc) fun e w' he => ?_
  obtain ⟨u, rfl, hN⟩ := h e w' he
  exact hn _ _ hN

theorem RO.up {d' : Nat} (hd : d ≤ d') {o : O} {v : Value} (hr : RO F H h w (AOk d) o v) : RO F H h w (AOk d') o v := hr.monoA fun _ _ q => Nat.le_trans q hd
theorem callQ_sim {α : Type} {E : Env} {base : Nat} {g : G} {s : St} {k : O → St → Option α} {r : α} {op : Op} {hop : HOp} {o : Oper} {ro : Option Nat} {Q : Exit → Act → World → Prop} (SP : SoundPure P E) (SRh : SoundRich P E) (ht : TrC op hop) (ho : o.op = op) (hd : d < s.fr.length) (hlp : s.lp = [])
    (S : SR F H s.fr w) (hA : AR F H s.fr w d ts a.tmps) (hk : heapSem E d base g ts s k hop = some r) :
    ∃ o' s', k o' s' = some r ∧ s'.lp = [] ∧ OpDone P ro o Q a w fun v w' => ∃ F' H', Stp F H s.fr w F' H' s'.fr w' ∧ RO F' H' s'.fr w' (AOk d) o' v := by
  have pureCall : ∀ {f : FuncId} {x y os : List O} {h1 : Heap} {F1 : Fz} {H1 : Hs} {l : List C} {v : C} {us vs : List Value} {ff : Operand} {xs : Array Operand} {tys : Array TypeId}, Stp F H s.fr w F1 H1 h1 w → ROs F1 H1 h1 w (AOk d) x us → ROs F1 H1 h1 w (AOk d) os (xs.toList.map a.eval) → ROs F1 H1 h1 w (AOk d) y vs →
      allC (x ++ os ++ y) = some l → E.pure f l = some v → o.op = .call { callee := .value ff, args := xs, argTypes := tys } → a.eval ff = .func (.func f) us.toArray vs.toArray →
      OpDone P ro o Q a w fun u w' => ∃ F' H', Stp F H s.fr w F' H' h1 w' ∧ RO F' H' h1 w' (AOk d) (.c v) u := by
    intro f x y os h1 F1 H1 l v us vs ff xs tys st hx hos hy hal hp hop hff
    obtain ⟨hent, hcalls⟩ := SP f l v hp
    have hall := (hx.append hos).append hy
    rw [allC_eq hal] at hall
    obtain ⟨hl, hv⟩ := hall.pureV
    refine OpDone.enter (run_call hop hff hent) (hcalls F1 w _ hl hv st.sr.flt) ?_
    rintro e w' ⟨u, F', rfl, h2, h3⟩
    exact ⟨u, rfl, F', H1, st.trans (Stp.of_ext0 st.sr h3), .c h2⟩
  cases ht with
  | @callQ f xs tys f' l hf hx =>
    simp only [heapSem] at hk
    split at hk <;> try (cases hk; done)
    rename_i ff x y e1
    split at hk <;> try (cases hk; done)
    rename_i os h1 e2
    split at hk <;> try (cases hk; done)
    rename_i lc e3
    split at hk <;> try (cases hk; done)
    rename_i v e4
    obtain ⟨q1, _⟩ := restArgs_false e2
    subst q1
    obtain ⟨F1, H1, k1, k2⟩ := restArgs_sim hx S hA e2
    have hro := k1.pres _ _ _ (hf.ro hA)
    rw [e1] at hro
    obtain ⟨us, vs, hff, r1, r2⟩ := splitO_sim hro (f := ff) (x := x.map .c) (y := y.map .c) rfl
    have := allC_eq e3
    subst this
    exact ⟨_, s, hk, hlp, pureCall k1 r1 k2 r2 (by rw [← List.map_append, ← List.map_append]; exact allC_map _) e4 ho hff⟩
  | @callM f xs tys f' l hf hx =>
    simp only [heapSem] at hk
    split at hk <;> try (cases hk; done)
    rename_i ff x y os h1 e1 e2
    obtain ⟨q1, _⟩ := restArgs_false e2
    subst q1
    obtain ⟨F1, H1, k1, k2⟩ := restArgs_sim hx S hA e2
    have hro := k1.pres _ _ _ (hf.ro hA)
    obtain ⟨us, vs, hff, r1, r2⟩ := splitO_sim hro e1
    split at hk
    · rename_i lc e3
      split at hk <;> try (cases hk; done)
      rename_i v e4
      exact ⟨_, s, hk, hlp, pureCall k1 r1 k2 r2 e3 e4 ho hff⟩
    · split at hk <;> try (cases hk; done)
      rename_i hc
      obtain ⟨hd0, hlen, _, hin, hblk⟩ := hc
      split at hk <;> try (cases hk; done)
      rename_i v s1 e4
      split at hk <;> try (cases hk; done)
      rename_i hb2
      subst hd0
      have hb : ∀ i ∈ idsOf (x ++ os ++ y), inB (idsOf (x ++ os ++ y)) (getB s.fr 0 i) = true := fun i hi => by
        have := List.all_eq_true.1 hblk i hi
        simp only [Bool.and_eq_true] at this
        exact this.2
      obtain ⟨mS, mRO⟩ := mask_SR k1.sr hb
      obtain ⟨hent, hcalls⟩ := SRh _ _ _ _ _ _ e4 (by simp) rfl
      have hargs := (r1.append k2).append r2
      have hargs2 : ROs F1 (maskL (idsOf (x ++ os ++ y)) H1) (maskH (idsOf (x ++ os ++ y)) s.fr) w (AOk 0) (x ++ os ++ y) (us ++ xs.toList.map a.eval ++ vs) :=
        ⟨hargs.1, fun j c u hc hu => (mRO c u ((inO_sim (hargs.2 j c u hc hu) 9 (List.all_eq_true.1 hin c (List.mem_of_getElem? hc))).monoA fun d i q => q.2)).monoA fun d i q => by show d ≤ 0; omega⟩
      refine ⟨_, _, hk, hlp, OpDone.enter (run_call ho hff hent) (hcalls F1 _ w _ mS hargs2) ?_⟩
      rintro e w' ⟨u, F', H', rfl, q1, q2, q3, q4⟩
      have st := back_Stp k1.sr hlen hb q3 (fun i hi => List.all_eq_true.1 hb2 i hi)
      refine ⟨u, rfl, F', _, k1.trans st, ?_⟩
      cases q4 with | c hv => exact .c hv
  | @call f xs tys f' l hf hx =>
    have hfro := hf.ro hA
    have main : ∀ {ff : FuncId} {x y : List O}, splitO (rd ts f') = some (ff, x, y) →
        (if E.inl ff = true then (match E.rich d ff (x ++ l.map (fun p => rd ts p.1) ++ y) s with | some (o, s) => k o s | none => none)
        else (match restArgs true ts l s.fr with
          | some (os, h) => match allC (x ++ os ++ y) with
            | some l => match E.pure ff l with
              | some v => k (.c v) { s with fr := h }
              | none => none
            | none => match E.rich d ff (x ++ os ++ y) { s with fr := h } with
              | some (o, s) => k o s
              | none => none
          | none => none)) = some r →
        ∃ o' s', k o' s' = some r ∧ s'.lp = [] ∧ OpDone P ro o Q a w fun v w' => ∃ F' H', Stp F H s.fr w F' H' s'.fr w' ∧ RO F' H' s'.fr w' (AOk d) o' v := by
      intro ff x y e1 hk
      split at hk
      · split at hk <;> try (cases hk; done)
        rename_i o1 s1 e2
        obtain ⟨us, vs, hff, r1, r2⟩ := splitO_sim hfro e1
        obtain ⟨hent, hcalls⟩ := SRh _ _ _ _ _ _ e2 hd hlp
        have hargs := hx.ro (F := F) (H := H) (h := s.fr) (w := w) hA
        refine ⟨o1, s1, hk, ?_, OpDone.enter (run_call ho hff hent) (hcalls F H w _ S ((r1.append hargs).append r2)) ?_⟩
        · obtain ⟨_, hc⟩ := hcalls F H w _ S ((r1.append hargs).append r2)
          obtain ⟨_, _, _, ⟨_, _, _, _, q, _⟩, _⟩ := hc [] (room_wide _)
          exact q
        · rintro e w' ⟨u, F', H', rfl, q1, q2, q3, q4⟩
          exact ⟨u, rfl, F', H', q3, q4⟩
      · split at hk <;> try (cases hk; done)
        rename_i os h1 e2
        obtain ⟨F1, H1, k1, k2⟩ := restArgs_sim hx S hA e2
        obtain ⟨us, vs, hff, r1, r2⟩ := splitO_sim (k1.pres _ _ _ hfro) e1
        split at hk
        · rename_i lc e3
          split at hk <;> try (cases hk; done)
          rename_i v e4
          exact ⟨_, _, hk, hlp, pureCall k1 r1 k2 r2 e3 e4 ho hff⟩
        · split at hk <;> try (cases hk; done)
          rename_i o1 s1 e4
          have hd1 : d < ({ s with fr := h1 } : St).fr.length := by show d < h1.length; rw [k1.len]; exact hd
          obtain ⟨hent, hcalls⟩ := SRh _ _ _ _ _ _ e4 hd1 hlp
          have hc0 := hcalls F1 H1 w _ k1.sr ((r1.append k2).append r2)
          refine ⟨o1, s1, hk, ?_, OpDone.enter (run_call ho hff hent) hc0 ?_⟩
          · obtain ⟨_, hc⟩ := hc0
            obtain ⟨_, _, _, ⟨_, _, _, _, q, _⟩, _⟩ := hc [] (room_wide _)
            exact q
          · rintro e w' ⟨u, F', H', rfl, q1, q2, q3, q4⟩
            exact ⟨u, rfl, F', H', k1.trans q3, q4⟩
    simp only [heapSem] at hk
    split at hk
    · rename_i e1
      rw [e1] at hfro
      cases hfro
    · split at hk <;> try (cases hk; done)
      rename_i ff x y e1
      exact main e1 hk
end
end Go.Ab

/-! ## Ac1 -/
namespace Go.Ab
open Go.RowKit

/-- The body of slices.Clone at slices of type 't'. -/
def cloneBody (t tb : TypeId) : Code :=
  .seq (.region 0 #[{ dst := some 2, op := .assign (.const (.slice none 0 0)), type := t, pos := "slices.go:355", after := #[], guard := none }] false)
    (.seq (.seq (.region 1 #[{ dst := some 3, op := .move (.tmp 0), type := t, pos := "slices.go:357", after := #[], guard := none },
        { dst := some 4, op := .binOp .eql t (.tmp 3) (.const (.slice none 0 0)) t, type := tb, pos := "slices.go:357", after := #[{ on := 0, ground := .data }], guard := none }] false)
      (.cond (.tmp 4) (.seq (.region 2 #[{ dst := some 2, op := .assign (.const (.slice none 0 0)), type := t, pos := "slices.go:358", after := #[], guard := none }] false) .ret) .skip))
    (.seq (.region 3 #[{ dst := some 5, op := .buildSlice t 0 #[], type := t, pos := "slices.go:362", after := #[], guard := none },
        { dst := some 6, op := .move (.tmp 0), type := t, pos := "slices.go:362", after := #[], guard := none },
        { dst := some 7, op := .call { callee := .builtin .append, args := #[.tmp 5, .tmp 6], argTypes := #[t, t] }, type := t, pos := "slices.go:362", after := #[{ on := 0, ground := .data }, { on := 1, ground := .data }], guard := none },
        { dst := some 2, op := .assign (.tmp 7), type := t, pos := "slices.go:362", after := #[{ on := 2, ground := .data }, { on := 2, ground := .chain }, { on := 0, ground := .phase }, { on := 1, ground := .phase }, { on := 2, ground := .phase }], guard := none }] false) .ret))
/-- A function that is slices.Clone. -/
structure IsClone (P : Program) (f : FuncId) (e : TypeId) (inf : TypeInfo) (z : Value) : Prop where
  ex : ∃ fn t tb, P.funcs[f]? = some fn ∧ fn.body = some (cloneBody t tb) ∧ (fn.name == "runtime.NumGoroutine") = false ∧ fn.ntmps = 8 ∧ fn.results = #[.tmp 2] ∧ P.underlying t = some (.slice e)
  hi : P.info? e = some inf
  hz : inf.zero = some z
  h0 : 0 < inf.size
  hzc : z.cells.size = inf.size
theorem IsClone.ent {P : Program} {f : FuncId} {e : TypeId} {inf : TypeInfo} {z : Value} (h : IsClone P f e inf z) : Ent P f := by
  obtain ⟨fn, t, tb, h1, h2, h3, _⟩ := h.ex
  exact Ent.of h1 h3 (by rw [h2]; rfl)

section
variable {F : Fz} {H : Hs} {h : Heap} {w w' : World} {d : Nat} {P : Program} {ts : List O} {a : Act}

theorem op_value {ro : Option Nat} {ops : Array Oper} {o : Oper} {i : Nat} {Q : Exit → Act → World → Prop} {K : Act → World → Prop} {v : Value} (hi : ops[i]? = some o) (hg : o.guard = none) (hd : ∀ c, o.op ≠ .defer c) (hv : (execOp a.eval o).run P w = .ok (.value v) w') (hK : K (a.put o.dst v) w') : wpOpIn (Wd ro) 0 P ops Q i K a w := by
  unfold wpOpIn
  simp only [hi]
  rw [if_pos (by simp [Region.wanted, hg])]
  refine ⟨fun _ _ => trivial, ?_⟩
  rw [Oper.semAt_eq _ _ _ hd, hv, Oper.uponIn_value]
  exact hK

/-- What Clone hands back. -/
def ClonedTo (F : Fz) (e : TypeId) (w w' : World) (sz m : Nat) (get : Nat → List C) (ad : Option Addr) (cap : Nat) : Prop :=
  (m = 0 ∧ cap = 0 ∧ (w' = w ∨ w' = w.alloc (.cells #[] e))) ∨
  ∃ us, 0 < m ∧ ad = some ⟨w.heap.size + 1, 0, none⟩ ∧ w' = (w.alloc (.cells #[] e)).drew.alloc (.cells us e) ∧ us.size = cap * sz ∧ m ≤ cap ∧ cap ≤ 9223372036854775807 ∧ RowC F w us sz m get

theorem clone_calls {f : FuncId} {e : TypeId} {inf : TypeInfo} {z : Value} {lim m cap : Nat} {get : Nat → List C} {ad : Option Addr} (hC : IsClone P f e inf z) (hlim : lim * inf.bytes ≤ 140737488355328) (hl63 : lim ≤ 9223372036854775807)
    (hv : VR F w (.slice m get) (.slice ad m cap)) (hsz : (get 0).length = inf.size ∨ m = 0) (hm : m ≤ lim) :
    CallsIn Fence.wide 0 P f #[.slice ad m cap] w fun en w' => ∃ ad' cap', en = .returned (.slice ad' m cap') ∧ ClonedTo F e w w' inf.size m get ad' cap' := by
  obtain ⟨fn, t, tb, h1, h2, h3, h4, h5, ht⟩ := hC.ex
  refine callsIn_of_wp h1 h2 trivial ?_
  have hres : ∀ (a : Act) (w : World), (results fn a.tmps).run P w = .ok (a.tmps.getD 2 undef) w := by
    intro a w; unfold results; rw [h5]; simp
  rw [h4]
  unfold cloneBody
  refine wpIn_seq (wpIn_region ?_)
  show wpOpsIn (Wd none) 0 P _ _ [0] _ _
  rw [wpOpsIn_cons]
  refine op_value rfl rfl (by simp) (w' := w) (v := .slice none 0 0) (by simp [execOp, Act.eval]) ?_
  show Code.wpIn (Wd none) 0 _ _ _ _ _
  refine wpIn_seq (wpIn_seq (wpIn_region ?_))
  show wpOpsIn (Wd none) 0 P _ _ [0, 1] _ _
  rw [wpOpsIn_cons]
  refine op_value rfl rfl (by simp) (w' := w) (v := .slice ad m cap) (by simp [execOp, Act.eval, Act.put]) ?_
  show wpOpsIn (Wd none) 0 P _ _ [1] _ _
  rw [wpOpsIn_cons]
  have hq := Lib.run_eql_slice_nil w t e ad m cap 0 0 ht
  refine op_value rfl rfl (by simp) (w' := w) (v := .bool ad.isNone) (by simp [execOp, Act.eval, Act.put, eqGuard, hq]) ?_
  show Code.wpIn (Wd none) 0 _ _ _ _ _
  refine wpIn_cond_split (show Act.eval _ (.tmp 4) = .bool ad.isNone by simp [Act.eval, Act.put]) (fun hn => ?_) (fun hn => ?_)
  · have : ad = none := by simpa using hn
    subst this
    have hm0 : m = 0 := by cases hv with | slice0 => rfl
    subst hm0
    refine wpIn_seq (wpIn_region ?_)
    show wpOpsIn (Wd none) 0 P _ _ [0] _ _
    rw [wpOpsIn_cons]
    refine op_value rfl rfl (by simp) (w' := w) (v := .slice none 0 0) (by simp [execOp, Act.eval]) ?_
    show Code.wpIn (Wd none) 0 _ _ _ _ _
    refine wpIn_ret ?_
    refine ⟨rfl, _, hres _ _, none, 0, ?_, .inl ⟨rfl, rfl, .inl rfl⟩⟩
    simp [Act.put]
  · refine wpIn_skip ?_
    show Code.wpIn (Wd none) 0 _ _ _ _ _
    refine wpIn_seq (wpIn_region ?_)
    show wpOpsIn (Wd none) 0 P _ _ [0, 1, 2, 3] _ _
    rw [wpOpsIn_cons]
    have hb : (Instr.buildSlice t 0 #[]).run P w = .ok (.slice (some ⟨w.heap.size, 0, none⟩) 0 0) (w.alloc (.cells #[] e)) :=
      run_buildSlice (us := #[]) ht hC.hi hC.hz (by simp) (by simp [Instr.fill, madeCells, Array.range_zero'])
    refine op_value rfl rfl (by simp) (v := .slice (some ⟨w.heap.size, 0, none⟩) 0 0) (w' := w.alloc (.cells #[] e)) (by simp [execOp, hb]) ?_
    show wpOpsIn (Wd none) 0 P _ _ [1, 2, 3] _ _
    rw [wpOpsIn_cons]
    refine op_value rfl rfl (by simp) (w' := w.alloc (.cells #[] e)) (v := .slice ad m cap) (by simp [execOp, Act.eval, Act.put]) ?_
    show wpOpsIn (Wd none) 0 P _ _ [2, 3] _ _
    rw [wpOpsIn_cons]
    -- the cells that are copied
    have hcell : ∀ b o, F b o → True := fun _ _ _ => trivial
    have old : ∀ (b o : Nat) (u : Value), w.cell? ⟨b, o, none⟩ = some u → (w.alloc (.cells #[] e)).cell? ⟨b, o, none⟩ = some u := fun b o u q => Lib.cell?_alloc_some _ q
    obtain ⟨news, hn, hf⟩ : ∃ news, RowL F w inf.size m get news ∧ ∀ w2 : World, w2.heap = (w.alloc (.cells #[] e)).heap → (Builtin.firstCells inf.size m (.slice ad m cap)).run P w2 = .ok news.toArray w2 := by
      cases hv with
      | slice0 => exact ⟨[], RowL.zero, fun w2 _ => by cases ad <;> simp [Builtin.firstCells, loadCells, loadCellsFrom]⟩
      | @slice _ us b off _ _ sz hn hl hg hF hc h1' hv =>
        by_cases hm0 : m = 0
        · subst hm0
          exact ⟨[], RowL.zero, fun w2 _ => by simp [Builtin.firstCells, loadCells, loadCellsFrom]⟩
        · have hs : sz = inf.size := by rw [← hsz.resolve_right hm0, hg 0 (by omega)]
          subst hs
          refine ⟨us, ⟨hl, fun u hu => ?_, hg, hv⟩, fun w2 hw2 => ?_⟩
          · obtain ⟨j, hj, rfl⟩ := List.mem_iff_getElem.1 hu
            exact h1' j _ (List.getElem?_eq_getElem hj)
          · refine run_firstCells_some (P := P) w2 inf.size m _ m cap us hl (fun j v hv => ?_)
            rw [addr_add]
            exact (cell_same (w := w.alloc (.cells #[] e)) (w' := w2) (by rw [hw2])).trans (old _ _ _ (hc j v hv))
    have fin : ∀ (a : Act) (v : Value) (w2 : World), a.tmps.size = 8 → a.defers = [] → (∃ ad' cap', v = .slice ad' m cap' ∧ ClonedTo F e w w2 inf.size m get ad' cap') →
        wpOpsIn (Wd none) 0 P #[{ dst := some 5, op := .buildSlice t 0 #[], type := t, pos := "slices.go:362", after := #[], guard := none },
        { dst := some 6, op := .move (.tmp 0), type := t, pos := "slices.go:362", after := #[], guard := none },
        { dst := some 7, op := .call { callee := .builtin .append, args := #[.tmp 5, .tmp 6], argTypes := #[t, t] }, type := t, pos := "slices.go:362", after := #[{ on := 0, ground := .data }, { on := 1, ground := .data }], guard := none },
        { dst := some 2, op := .assign (.tmp 7), type := t, pos := "slices.go:362", after := #[{ on := 2, ground := .data }, { on := 2, ground := .chain }, { on := 0, ground := .phase }, { on := 1, ground := .phase }, { on := 2, ground := .phase }], guard := none }]
          (Exit.then (Code.ret.wpIn (Wd none) 0 P (bodyPost P fn fun en w' => ∃ ad' cap', en = .returned (.slice ad' m cap') ∧ ClonedTo F e w w' inf.size m get ad' cap')) (bodyPost P fn fun en w' => ∃ ad' cap', en = .returned (.slice ad' m cap') ∧ ClonedTo F e w w' inf.size m get ad' cap')) [3] (a.put (some 7) v) w2 := by
      intro a v w2 hs8 hdf hfin
      rw [wpOpsIn_cons]
      refine op_value rfl rfl (by simp) (w' := w2) (v := v) (by simp [execOp, Act.eval, Act.put, hs8]) ?_
      show Code.wpIn (Wd none) 0 _ _ _ _ _
      refine wpIn_ret ?_
      refine ⟨by simpa [Act.put] using hdf, _, hres _ _, ?_⟩
      obtain ⟨ad', cap', rfl, hto⟩ := hfin
      exact ⟨ad', cap', by simp [Act.put, hs8], hto⟩
    by_cases hm0 : m = 0
    · subst hm0
      have hnil : news = [] := List.eq_nil_of_length_eq_zero (by simpa using hn.1)
      subst hnil
      have hz := run_app_zero (P := P) (w := w.alloc (.cells #[] e)) (t := t) (t2 := t) (ty := t) (sa := some ⟨w.heap.size, 0, none⟩) ht ht hC.hi (hf _ rfl)
      refine op_value rfl rfl (by simp) (v := .slice (some ⟨w.heap.size, 0, none⟩) 0 0) (w' := w.alloc (.cells #[] e)) (by simp [execOp, Act.eval, Act.put, resolve, invoke, builtin, hz]) ?_
      exact fin _ _ _ (by simp [Act.put]) rfl ⟨_, 0, rfl, .inl ⟨rfl, rfl, .inr rfl⟩⟩
    · have hg := run_app_grow (P := P) (w := w.alloc (.cells #[] e)) (t := t) (t2 := t) (ty := t) (s := .slice (some ⟨w.heap.size, 0, none⟩) 0 0) (cap := 0) (n := 0) (m := m) (olds := []) ht ht hC.hi hC.hz rfl
        (fun w2 _ => by simp [Builtin.firstCells, loadCells, loadCellsFrom]) hf (by omega) (by omega) (fits (by omega) hlim (by omega))
      have hge := grownCap_ge (w.alloc (.cells #[] e)) (0 + m) 0 e
      have hc63 := grownCap_le_maxLen (w.alloc (.cells #[] e)) (0 + m) 0 e (by unfold maxLen; omega)
      have hsize := grown_size (olds := []) (n := 0) (by simp) hn.1 hC.hzc hge
      rw [grown_list] at hg hsize
      generalize grownCap (w.alloc (.cells #[] e)) (0 + m) 0 e = GC at hg hge hc63 hsize
      generalize (Builtin.zeroCells z.cells (GC - (0 + m))).toList = rest at hg hsize
      have hrow : RowC F w ([] ++ news ++ rest).toArray inf.size m get := by simpa using hn.rowC (rest := rest) hC.h0
      have hsz' : (w.alloc (.cells #[] e)).heap.size = w.heap.size + 1 := by simp
      rw [hsz'] at hg
      simp only [Nat.zero_add, List.nil_append] at hg hge hrow hsize
      refine op_value rfl rfl (by simp) (v := .slice (some ⟨w.heap.size + 1, 0, none⟩) m GC) (w' := (w.alloc (.cells #[] e)).drew.alloc (.cells (news ++ rest).toArray e)) (by simp [execOp, Act.eval, Act.put, resolve, invoke, builtin, hg]) ?_
      exact fin _ _ _ (by simp [Act.put]) rfl ⟨_, GC, rfl, .inr ⟨_, by omega, rfl, rfl, hsize, hge, by unfold maxLen at hc63; exact hc63, hrow⟩⟩

/-! ### Clone in the machine -/
inductive TrK (P : Program) : Op → HOp → Prop
  | clone {ff : FuncId} {x : Operand} {x' : Arg} {tys : Array TypeId} {e : TypeId} {inf : TypeInfo} {z : Value} {mu : Bool} {lim : Nat} {zl : List C} (hC : IsClone P ff e inf z) (hzl : zl.length = inf.size) (hlim : lim * inf.bytes ≤ 140737488355328) (hl63 : lim ≤ 9223372036854775807) (hx : TrA x x') :
      TrK P (.call { callee := .value (.func ff), args := #[x], argTypes := tys }) (.clone mu lim zl x')
  | cloneP {ff : FuncId} {x : Operand} {x' : Arg} {tys : Array TypeId} {e : TypeId} {inf : TypeInfo} {z : Value} {lim : Nat} {zl : List C} (hC : IsClone P ff e inf z) (hzl : zl.length = inf.size) (hlim : lim * inf.bytes ≤ 140737488355328) (hl63 : lim ≤ 9223372036854775807) (hx : TrA x x') :
      TrK P (.call { callee := .value (.func ff), args := #[x], argTypes := tys }) (.cloneP lim zl x')

theorem Ext0.alloc (hF : ∀ b o, F b o → b < w.heap.size) (o : Obj) : Ext0 F w F (w.alloc o) := by
  refine ⟨rfl, rfl, rfl, by simp, fun _ _ q => q, fun b hb => ⟨?_, fun _ q => q⟩, fun b o q => by have := hF b o q; simp; omega⟩
  show (w.heap.push o)[b]? = _
  rw [Array.getElem?_push_lt hb, Array.getElem?_eq_getElem hb]
theorem Ext0.refl (hF : ∀ b o, F b o → b < w.heap.size) : Ext0 F w F w := ⟨rfl, rfl, rfl, Nat.le_refl _, fun _ _ q => q, fun b hb => ⟨rfl, fun _ q => q⟩, hF⟩

theorem clone_sim {α : Type} {E : Env} {base : Nat} {g : G} {s : St} {k : O → St → Option α} {r : α} {op : Op} {hop : HOp} {o : Oper} {ro : Option Nat} {Q : Exit → Act → World → Prop} (ht : TrK P op hop) (ho : o.op = op) (hlp : s.lp = [])
    (S : SR F H s.fr w) (hA : AR F H s.fr w d ts a.tmps) (hk : heapSem E d base g ts s k hop = some r) :
    ∃ o' s', k o' s' = some r ∧ s'.lp = [] ∧ OpDone P ro o Q a w fun v w' => ∃ F' H', Stp F H s.fr w F' H' s'.fr w' ∧ RO F' H' s'.fr w' (AOk d) o' v := by
  have ev : ∀ ff, a.eval (.func ff) = .func (.func ff) ([] : List Value).toArray ([] : List Value).toArray := fun ff => rfl
  cases ht with
  | @cloneP ff x x' tys e inf z lim zl hC hzl hlim hl63 hx =>
    simp only [heapSem] at hk
    split at hk <;> try (cases hk; done)
    rename_i m get h1 e1
    split at hk <;> try (cases hk; done)
    rename_i hc
    obtain ⟨hc1, hc2⟩ := hc
    obtain ⟨F1, H1, k1, xa, xc, hxv, hv⟩ := content_sim S (hx.ro hA) e1
    rw [hzl] at hc1
    refine ⟨_, _, hk, hlp, OpDone.enter (run_call (us := []) (vs := []) ho (ev ff) hC.ent) (by rw [show ([] ++ [x].map a.eval ++ [] : List Value).toArray = #[a.eval x] by simp, hxv]; exact clone_calls hC hlim hl63 hv hc1 hc2) ?_⟩
    rintro en w' ⟨ad', cap', rfl, hto⟩
    have hF1 := k1.sr.flt
    rcases hto with ⟨rfl, rfl, hw⟩ | ⟨us, hm, rfl, rfl, hs, hmc, hc63, hrow⟩
    · rcases hw with rfl | rfl
      · exact ⟨_, rfl, F1, H1, k1, .c .slice0⟩
      · exact ⟨_, rfl, F1, H1, k1.trans (Stp.of_ext0 k1.sr (Ext0.alloc hF1 _)), .c .slice0⟩
    · have hsz0 : (w.alloc (.cells #[] e)).heap.size = w.heap.size + 1 := by simp
      have x1 : Ext0 F1 w (addF F1 (w.heap.size + 1) (m * inf.size)) ((w.alloc (.cells #[] e)).drew.alloc (.cells us e)) := by
        refine ⟨rfl, rfl, rfl, by simp; omega, addF_sub, fun b hb => ⟨?_, fun o q => ?_⟩, fun b o q => ?_⟩
        · show ((w.heap.push _).push _)[b]? = _
          rw [Array.getElem?_push_lt (by simp; omega), Array.getElem_push_lt hb, Array.getElem?_eq_getElem hb]
        · rcases q with q | ⟨q, _⟩
          · exact q
          · omega
        · rcases q with q | ⟨q, _⟩
          · have := hF1 b o q; simp; omega
          · rw [q]; simp
      have hnew : ((w.alloc (.cells #[] e)).drew.alloc (.cells us e)).heap[w.heap.size + 1]? = some (.cells us e (0, 0)) := by
        have := heap_alloc_new (w.alloc (.cells #[] e)).drew (.cells us e)
        rw [show (w.alloc (.cells #[] e)).drew.heap.size = w.heap.size + 1 from hsz0] at this
        exact this
      have st := k1.trans (Stp.of_ext0 k1.sr x1)
      refine ⟨_, rfl, _, H1, st, .c (VR.of_row hnew (fun o q => .inr ⟨rfl, q⟩) (hrow.mono addF_sub (fun b o q => cell_same (x1.old b (hF1 b o q)).1)) hmc)⟩
  | @clone ff x x' tys e inf z mu lim zl hC hzl hlim hl63 hx =>
    simp only [heapSem] at hk
    split at hk <;> try (cases hk; done)
    rename_i m get h1 e1
    split at hk <;> try (cases hk; done)
    rename_i hc
    obtain ⟨hc1, hc2, hfr⟩ := hc
    obtain ⟨F1, H1, k1, xa, xc, hxv, hv⟩ := content_sim S (hx.ro hA) e1
    rw [hzl] at hc1
    refine ⟨_, _, hk, hlp, OpDone.enter (run_call (us := []) (vs := []) ho (ev ff) hC.ent) (by rw [show ([] ++ [x].map a.eval ++ [] : List Value).toArray = #[a.eval x] by simp, hxv]; exact clone_calls hC hlim hl63 hv hc1 hc2) ?_⟩
    rintro en w' ⟨ad', cap', rfl, hto⟩
    have hF1 := k1.sr.flt
    have nil : ∀ w1, Stp F H s.fr w F1 H1 h1 w1 → ∃ F' H', Stp F H s.fr w F' H' (setB h1 d (base + g.an) (if mu = true then .mar zl.length 0 get else .arr zl.length 0 get)) w1 ∧
        RO F' H' (setB h1 d (base + g.an) (if mu = true then .mar zl.length 0 get else .arr zl.length 0 get)) w1 (AOk d) (.arr d (base + g.an) zl.length 0) (.slice ad' 0 0) := by
      intro w1 st1
      obtain ⟨fg, fd, fi⟩ := fresh_getB hfr
      have gL := loc_setL H1 d (base + g.an) none (by rw [st1.sr.len]; exact fd) (by rw [st1.sr.lens]; exact fi) d (base + g.an)
      simp only [and_self, if_true] at gL
      have gB := getB_setB h1 d (base + g.an) (if mu = true then .mar zl.length 0 get else .arr zl.length 0 get) fd fi d (base + g.an)
      simp only [and_self, if_true] at gB
      have st := st1.sr.newNil hfr (b' := if mu = true then .mar zl.length 0 get else .arr zl.length 0 get) (by cases mu; exact .inl ⟨_, _, rfl⟩; exact .inr ⟨_, _, rfl⟩)
      refine ⟨F1, _, st1.trans st, .arr (Nat.le_refl d) (fun q => by omega) ?_⟩
      unfold RowAt
      rw [gB]
      cases mu with
      | true => exact ⟨rfl, Nat.le_refl _, fun _ => .inl ⟨rfl, rfl, gL⟩⟩
      | false => exact ⟨rfl, Nat.le_refl _, .slice0, fun e he => absurd he (by omega), fun _ => .inl ⟨rfl, rfl, gL⟩⟩
    rcases hto with ⟨rfl, rfl, hw⟩ | ⟨us, hm, rfl, rfl, hs, hmc, hc63, hrow⟩
    · rcases hw with rfl | rfl
      · obtain ⟨F', H', q1, q2⟩ := nil _ k1
        exact ⟨_, rfl, F', H', q1, q2⟩
      · obtain ⟨F', H', q1, q2⟩ := nil _ (k1.trans (Stp.of_ext0 k1.sr (Ext0.alloc hF1 _)))
        exact ⟨_, rfl, F', H', q1, q2⟩
    · have x1 := Ext0.alloc hF1 (.cells #[] e)
      have st1 := Stp.of_ext0 k1.sr x1
      have hrow1 : RowC F1 (w.alloc (.cells #[] e)) us inf.size m get := hrow.mono (fun _ _ q => q) (fun b o q => cell_same (x1.old b (hF1 b o q)).1)
      rw [← hzl] at hrow1 hs
      obtain ⟨F', H', q1, q2⟩ := lay_row (w' := (w.alloc (.cells #[] e)).drew.alloc (.cells us e)) (us := us) (t := e) (cap := cap') (an := g.an) (base := base) mu st1.sr hfr rfl rfl rfl rfl hrow1 hs hmc hc63
      rw [show (w.alloc (.cells #[] e)).heap.size = w.heap.size + 1 by simp] at q2
      exact ⟨_, rfl, F', H', k1.trans (st1.trans q1), q2⟩
end
end Go.Ab

/-! ## As19 -/
namespace Go.Ab
open Go.RowKit

inductive TrOp (P : Program) : Op → POp ⊕ HOp → Prop
  | p {op : Op} {x : POp} (h : TrP P op x) : TrOp P op (.inl x)
  | q {op : Op} {x : POp} (h : TrQ P op x) : TrOp P op (.inl x)
  | h {op : Op} {x : HOp} (h : TrH P op x) : TrOp P op (.inr x)
  | c {op : Op} {x : HOp} (h : TrC op x) : TrOp P op (.inr x)
  | k {op : Op} {x : HOp} (h : TrK P op x) : TrOp P op (.inr x)
structure TrG (P : Program) (ops : Array Oper) (o : Oper) (g : G) : Prop where
  dst : g.dst = o.dst
  guard : TrGd ops o.guard g.guard
  op : TrOp P o.op g.op

section
variable {F : Fz} {H : Hs} {h h0 : Heap} {w w' w0 : World} {F0 : Fz} {H0 : Hs} {d base : Nat} {P : Program} {ts ts' : List O} {a : Act} {E : Env} {g : G} {s s' : St} {o : Oper} {ops : Array Oper} {ro : Option Nat} {Q : Exit → Act → World → Prop}

theorem TrOp.noDefer {x : POp ⊕ HOp} {op : Op} (h : TrOp P op x) (c : Call) : op ≠ .defer c := by
  intro e
  subst e
  cases h with
  | p h => cases h
  | q h => cases h
  | h h => cases h
  | c h => cases h
  | k h => cases h

theorem At.put {v : Value} {o' : O} {F' : Fz} {H' : Hs} (hat : At P F0 H0 h0 w0 d ts s a w) {F1 : Fz} {H1 : Hs} (hst : Stp F0 H0 h0 w0 F1 H1 s.fr w) (hA : AR F1 H1 s.fr w d ts a.tmps) (hs : Stp F1 H1 s.fr w F' H' s'.fr w') (hv : RO F' H' s'.fr w' (AOk d) o' v) (hlp : s'.lp = []) (dst : Option Nat) :
    At P F0 H0 h0 w0 d (putO ts dst o') s' (a.put dst v) w' := by
  obtain ⟨_, _, _, _, hd, _, hdf⟩ := hat
  refine ⟨F', H', hst.trans hs, (AR.pres hs hA).put hv dst, by rw [hs.len]; exact hd, hlp, ?_⟩
  cases dst with
  | none => exact hdf
  | some t => exact hdf
/-- An operation that runs. -/
theorem go_sim (SP : SoundPure P E) (SRh : SoundRich P E) (tg : TrG P ops o g) (hat : At P F0 H0 h0 w0 d ts s a w) (hk : goSem E d base g ts s (fun ts s => some (ts, s)) = some (ts', s')) {K : Act → World → Prop} (hK : ∀ a' w', At P F0 H0 h0 w0 d ts' s' a' w' → K a' w') :
    o.wpIn (Wd ro) 0 P a w K Q := by
  refine ⟨fun _ _ => trivial, ?_⟩
  rw [Oper.semAt_eq _ _ _ (fun c => tg.op.noDefer c)]
  have hat' := hat
  obtain ⟨F1, H1, hst, hA, hd, hlp, hdf⟩ := hat
  have hop := tg.op
  cases e : g.op with
  | inl x =>
    rw [e] at hop
    simp only [goSem, e] at hk
    have fin : ∀ {o' : O} {v : Value}, some (putO ts g.dst o', s) = some (ts', s') → RO F1 H1 s.fr w (AOk d) o' v → (execOp a.eval o).run P w = .ok (.value v) w → o.uponIn (Wd ro) 0 P a K Q ((execOp a.eval o).run P w) := by
      intro o' v h1 h2 h3
      cases h1
      rw [h3, Oper.uponIn_value]
      refine hK _ _ ?_
      rw [tg.dst]
      exact hat'.put hst hA (Stp.refl hst.sr) h2 hlp o.dst
    cases hop with
    | p h =>
      obtain ⟨o', v, h1, h2, h3⟩ := pure_sim h rfl hA hk
      exact fin h1 h2 h3
    | q h =>
      obtain ⟨o', v, h1, h2, h3⟩ := pure_sim2 h rfl hA hk
      exact fin h1 h2 h3
  | inr x =>
    rw [e] at hop
    simp only [goSem, e] at hk
    split at hk <;> try (cases hk; done)
    cases hop with
    | h h =>
      obtain ⟨o', s1, F', H', v, w', h1, h2, h3, h4, h5⟩ := heap_sim h rfl hst.sr hA hk
      cases h1
      have hfin : K (a.put o.dst v) w' := hK _ _ (by rw [tg.dst]; exact hat'.put hst hA h3 h4 (h2.trans hlp) o.dst)
      rcases h5 with h5 | ⟨rfl, h5⟩
      · rw [h5, Oper.uponIn_value]; exact hfin
      · rw [h5, Oper.uponIn_skip]; exact hfin
    | c h =>
      obtain ⟨o', s1, h1, h2, h3⟩ := callQ_sim (ro := ro) (Q := Q) SP SRh h rfl hd hlp hst.sr hA hk
      cases h1
      refine h3 K fun v w' hN => ?_
      obtain ⟨F', H', h4, h5⟩ := hN
      exact hK _ _ (by rw [tg.dst]; exact hat'.put hst hA h4 h5 h2 o.dst)
    | k h =>
      obtain ⟨o', s1, h1, h2, h3⟩ := clone_sim (ro := ro) (Q := Q) h rfl hlp hst.sr hA hk
      cases h1
      refine h3 K fun v w' hN => ?_
      obtain ⟨F', H', h4, h5⟩ := hN
      exact hK _ _ (by rw [tg.dst]; exact hat'.put hst hA h4 h5 h2 o.dst)
/-- An operation behind its guard. -/
theorem op_sim {i : Nat} (SP : SoundPure P E) (SRh : SoundRich P E) (hi : ops[i]? = some o) (tg : TrG P ops o g) (hat : At P F0 H0 h0 w0 d ts s a w) (hk : opV E d base g ts s = some (ts', s')) {K : Act → World → Prop} (hK : ∀ a' w', At P F0 H0 h0 w0 d ts' s' a' w' → K a' w') :
    wpOpIn (Wd ro) 0 P ops Q i K a w := by
  have hat' := hat
  obtain ⟨F1, H1, hst, hA, hd, hlp, hdf⟩ := hat
  have hgs := guard_sim tg.guard hA
  unfold opV at hk
  rw [opSem_eq] at hk
  unfold wpOpIn
  simp only [hi]
  have skip : some (putO ts g.dst skipO, s) = some (ts', s') → K (a.put o.dst undef) w := by
    intro h1
    cases h1
    refine hK _ _ ?_
    rw [tg.dst]
    exact hat'.put hst hA (Stp.refl hst.sr) (.c (.tuple (us := []) rfl (fun j c u hc => by simp at hc))) hlp o.dst
  cases hg : g.guard with
  | none =>
    rw [hg] at hgs hk
    simp only [GuardSim] at hgs
    rw [if_pos hgs]
    exact go_sim SP SRh tg hat' hk hK
  | some p =>
    obtain ⟨t, b⟩ := p
    rw [hg] at hgs hk
    simp only [GuardSim] at hgs
    simp only at hk
    cases e : ts.getD t .undef with
    | c v =>
      rw [e] at hgs hk
      cases v with
      | bool b' =>
        simp only at hgs hk
        split at hk
        · rename_i hb
          rw [if_pos (by rw [hgs]; simp [hb])]
          exact go_sim SP SRh tg hat' hk hK
        · rename_i hb
          rw [if_neg (by rw [hgs]; simp [hb])]
          exact ⟨fun _ _ => trivial, skip hk⟩
      | tuple l =>
        cases l with
        | nil =>
          simp only at hgs hk
          rw [if_neg (by rw [hgs]; simp)]
          exact ⟨fun _ _ => trivial, skip hk⟩
        | cons x y => simp only at hk; cases hk
      | _ => simp only at hk; cases hk
    | _ => rw [e] at hk; simp only at hk; cases hk

/-- The operations of a list, one after the other. -/
theorem opsI_sim {L : List G} (SP : SoundPure P E) (SRh : SoundRich P E) (hT : ∀ (i : Nat) (g : G), L[i]? = some g → ∃ o, ops[i]? = some o ∧ TrG P ops o g) {res : List O × St} (hQ : ∀ a' w', At P F0 H0 h0 w0 d res.1 res.2 a' w' → Q .normal a' w') :
    ∀ (l : List Nat) {ts : List O} {s : St} {a : Act} {w : World}, At P F0 H0 h0 w0 d ts s a w → opsI E d base L l ts s = some res → wpOpsIn (Wd ro) 0 P ops Q l a w := by
  intro l
  induction l with
  | nil => intro ts s a w hat hk; simp only [opsI, Option.some.injEq] at hk; subst hk; exact hQ _ _ hat
  | cons i r ih =>
    intro ts s a w hat hk
    obtain ⟨g, ts1, s1, h1, h2, h3⟩ := opsI_cons hk
    obtain ⟨o, hi, tg⟩ := hT i g h1
    rw [wpOpsIn_cons]
    exact op_sim SP SRh hi tg hat h2 fun a' w' hat' => ih hat' h3
end
end Go.Ab

/-! ## As20 -/
namespace Go.Ab
open Go.RowKit

/-- What must come ahead of an operation. -/
inductive Bef (ops : Array Oper) : Nat → Nat → Prop
  | edge {i : Nat} {o : Oper} {e : Edge} (ho : ops[i]? = some o) (he : e ∈ o.after) (hb : Region.binds .any e = true) : Bef ops e.on i
  | trans {y z i : Nat} (h1 : Bef ops y z) (h2 : Bef ops z i) : Bef ops y i

section
variable {h0 : Heap} {w0 : World} {F0 : Fz} {H0 : Hs} {d base : Nat} {P : Program} {E : Env} {ops : Array Oper} {ro : Option Nat} {Q : Exit → Act → World → Prop}

theorem any_sim {L : List G} {un : List (Nat × Nat)} (SP : SoundPure P E) (SRh : SoundRich P E) (hL : L.length = ops.size) (hT : ∀ (i : Nat) (g : G), L[i]? = some g → ∃ o, ops[i]? = some o ∧ TrG P ops o g) (R : RegOk d base L un (Bef ops))
    {res : List O × St} (hdis : disOk d base res.1 L un = true) (hQ : ∀ a' w', At P F0 H0 h0 w0 d res.1 res.2 a' w' → Q .normal a' w') :
    ∀ (fuel : Nat) {l : List Nat} {listed : Array Bool} {ts : List O} {s : St} {a : Act} {w : World}, l.length ≤ fuel → l.Pairwise (· < ·) → listed.size = ops.size → (∀ j, j ∈ l ↔ j < ops.size ∧ listed.getD j true = false) →
      (∀ z i, Bef ops z i → i < ops.size → z ∈ l → i ∈ l) → At P F0 H0 h0 w0 d ts s a w → opsI E d base L l ts s = some res → wpAnyIn (Wd ro) 0 P .any ops Q fuel listed a w := by
  -- nothing is ready: nothing is left
  have none : ∀ {l : List Nat} {listed : Array Bool}, l.Pairwise (· < ·) → listed.size = ops.size → (∀ j, j ∈ l ↔ j < ops.size ∧ listed.getD j true = false) → Region.ready .any ops listed = [] → l = [] := by
    intro l listed hp hsz hD hr
    cases l with
    | nil => rfl
    | cons i r =>
      have hi := (hD i).1 (by simp)
      have : i ∈ Region.ready .any ops listed := mem_ready.2 ⟨hi.2, ops[i]'hi.1, Array.getElem?_eq_getElem hi.1, fun e he hb => by
        have hlt := R.lt _ _ (Bef.edge (Array.getElem?_eq_getElem hi.1) he hb)
        have hnl : e.on ∉ i :: r := by
          intro hm
          rcases List.mem_cons.1 hm with q | q
          · omega
          · have := (List.pairwise_cons.1 hp).1 _ q; omega
        have hin : e.on < listed.size := by omega
        have : listed.getD e.on true = true := by
          cases q : listed.getD e.on true with
          | true => rfl
          | false => exact absurd ((hD e.on).2 ⟨by omega, q⟩) hnl
        simp only [Array.getD_eq_getD_getElem?, Array.getElem?_eq_getElem hin, Option.getD_some] at this ⊢
        exact this⟩
      rw [hr] at this; cases this
  intro fuel
  induction fuel with
  | zero =>
    intro l listed ts s a w hl hp hsz hD hcl hat hk
    have : l = [] := List.eq_nil_of_length_eq_zero (by omega)
    subst this
    simp only [opsI, Option.some.injEq] at hk
    subst hk
    refine ⟨?_, hQ _ _ hat⟩
    cases hr : Region.ready .any ops listed with
    | nil => rfl
    | cons i r =>
      have hm : i ∈ Region.ready .any ops listed := by rw [hr]; simp
      obtain ⟨q1, o, q2, _⟩ := mem_ready.1 hm
      have := (hD i).2 ⟨(Array.getElem?_eq_some_iff.1 q2).1, q1⟩
      cases this
  | succ fuel ih =>
    intro l listed ts s a w hl hp hsz hD hcl hat hk
    refine ⟨fun hr => ?_, fun i hi => ?_⟩
    · have := none hp hsz hD hr
      subst this
      simp only [opsI, Option.some.injEq] at hk
      subst hk
      exact hQ _ _ hat
    · obtain ⟨q1, o, q2, q3⟩ := mem_ready.1 hi
      have hlt : i < ops.size := (Array.getElem?_eq_some_iff.1 q2).1
      have him : i ∈ l := (hD i).2 ⟨hlt, q1⟩
      have hnb : ∀ y k, Bef ops y k → k = i → y ∉ l := by
        intro y k hb
        induction hb with
        | @edge k o2 e ho he hbi =>
          rintro rfl hm
          rw [q2] at ho
          cases ho
          have hl1 := q3 e he hbi
          have hl2 := ((hD e.on).1 hm)
          have hin : e.on < listed.size := by omega
          simp only [Array.getD_eq_getD_getElem?, Array.getElem?_eq_getElem hin, Option.getD_some] at hl1 hl2
          rw [hl1] at hl2; simp at hl2
        | @trans y z k h1 h2 ih1 ih2 =>
          rintro rfl hm
          exact ih2 rfl (hcl y z h1 (by have := R.lt _ _ h2; omega) hm)
      obtain ⟨l1, l2, rfl⟩ := List.append_of_mem him
      have hf := front R l1 hk hdis hp (fun y hy hb => hnb y i hb rfl hy)
      obtain ⟨g, ts1, s1, k1, k2, k3⟩ := opsI_cons hf
      obtain ⟨o2, h1, tg⟩ := hT i g k1
      have hnot : ∀ j, j ∈ l1 ++ l2 → j ≠ i := by
        intro j hj e
        subst e
        rw [List.pairwise_append] at hp
        rcases List.mem_append.1 hj with q | q
        · have := hp.2.2 j q j (by simp); omega
        · have := (List.pairwise_cons.1 hp.2.1).1 j q; omega
      refine op_sim SP SRh h1 tg hat k2 fun a' w' hat' => ih (l := l1 ++ l2) ?_ ?_ ?_ ?_ ?_ hat' k3
      · simp at hl ⊢; omega
      · exact hp.sublist (by simp)
      · simpa using hsz
      · intro j
        by_cases e : j = i
        · subst e
          constructor
          · intro hj; exact absurd rfl (hnot j hj)
          · rintro ⟨_, q⟩
            have hin : j < listed.size := by omega
            simp [hin] at q
        · rw [getD_set_ne true (fun q => e q.symm)]
          have := hD j
          rw [← this]
          simp [e]
      · intro z k hb hkl hz
        have hz' : z ∈ l1 ++ i :: l2 := by
          rcases List.mem_append.1 hz with q | q
          · exact List.mem_append_left _ q
          · exact List.mem_append_right _ (List.mem_cons_of_mem _ q)
        have hk' := hcl z k hb hkl hz'
        have hne : k ≠ i := fun q => hnb z k hb q hz'
        rcases List.mem_append.1 hk' with q | q
        · exact List.mem_append_left _ q
        · rcases List.mem_cons.1 q with q | q
          · exact absurd q hne
          · exact List.mem_append_right _ q
end
end Go.Ab

/-! ## As21 -/
namespace Go.Ab
open Go.RowKit

section
variable {F : Fz} {H H' : Hs} {h h' h0 : Heap} {w w0 : World} {F0 : Fz} {H0 : Hs} {d base : Nat} {P : Program} {E : Env} {ops : Array Oper} {ro : Option Nat} {Q : Exit → Act → World → Prop} {ts : List O} {s : St} {a : Act}

/-- Memory that is told otherwise, and is the same. -/
theorem Stp.same (S : SR F H h w) (hl : h'.length = h.length) (hll : ∀ d, (h.getD d []).length ≤ (h'.getD d []).length) (hL : H'.length = h'.length) (hs : ∀ d, (H'.getD d []).length = (h'.getD d []).length) (hg : ∀ d i, getB h' d i = getB h d i) (hc : ∀ d i, loc H' d i = loc H d i) : Stp F H h w F H' h' w := by
  have hown : ∀ d i sz n a cap, Own H w d i sz n a cap → Own H' w d i sz n a cap := by
    rintro d i sz n a cap (⟨q1, q2, q3⟩ | ⟨b, us, t, h1, h2⟩)
    · exact .inl ⟨q1, q2, (hc d i).trans q3⟩
    · exact .inr ⟨b, us, t, (hc d i).trans h1, h2⟩
  have hgoes : ∀ d i, Goes H w H' h' w F d i (getB h d i) := by
    intro d i
    cases hb : getB h d i with
    | none => trivial
    | vars cs => exact ⟨by rw [hg, hb]; rfl, hc d i⟩
    | arr sz n get => exact ⟨n, get, (hg d i).trans hb, Nat.le_refl _, fun _ _ => rfl, fun _ a cap => hown d i sz n a cap⟩
    | mar sz n get => exact .inl ⟨n, get, (hg d i).trans hb, Nat.le_refl _, fun _ => ⟨hc d i, fun a cap => hown d i sz n a cap⟩⟩
    | far sz n get => exact (hg d i).trans hb
    | map f => have := S.blk d i; rw [hb] at this; exact this
  have hRO : ∀ A o v, RO F H h w A o v → RO F H' h' w A o v := fun A o v hr => hr.goes (fun _ _ q => q) (fun _ _ _ => rfl) (fun _ _ q => q) (fun d i _ => hgoes d i)
  refine ⟨⟨hL, hs, fun d i d' i' b h1 h2 => S.inj d i d' i' b (by rw [← hc]; exact h1) (by rw [← hc]; exact h2), fun d i b h1 => S.lt d i b (by rw [← hc]; exact h1), S.flt, fun d i => ?_⟩, ⟨rfl, rfl, rfl, Nat.le_refl _, fun _ _ q => q, fun _ _ _ => rfl, fun b hb hu => ⟨rfl, fun _ q => q, ?_⟩⟩, hRO, hl, hll⟩
  · rw [hg]
    have hold := S.blk d i
    cases hb : getB h d i with
    | none => rw [hb] at hold; exact (hc d i).trans hold
    | vars cs =>
      rw [hb] at hold
      obtain ⟨b, us, t, h1, h2, h3, h4, h5⟩ := hold
      exact ⟨b, us, t, (hc d i).trans h1, h2, h3, h4, fun j o u ho hu => hRO _ _ _ (h5 j o u ho hu)⟩
    | arr sz n get =>
      rw [hb] at hold
      rcases hold with ⟨q1, q2⟩ | ⟨b, us, t, h1, h2⟩
      · exact .inl ⟨q1, (hc d i).trans q2⟩
      · exact .inr ⟨b, us, t, (hc d i).trans h1, h2⟩
    | mar sz n get =>
      rw [hb] at hold
      rcases hold with ⟨q1, q2⟩ | ⟨b, us, t, h1, h2⟩
      · exact .inl ⟨q1, (hc d i).trans q2⟩
      · exact .inr ⟨b, us, t, (hc d i).trans h1, h2⟩
    | far sz n get => trivial
    | map f => rw [hb] at hold; exact hold
  · rintro ⟨d, i, h1, h2⟩
    rw [hg] at h2
    exact hu ⟨d, i, by rw [← hc]; exact h1, h2⟩

theorem getD_app_none {α : Type} (l : List α) (k : Nat) (z : α) (i : Nat) : (l ++ List.replicate k z).getD i z = l.getD i z := by
  simp only [List.getD_eq_getElem?_getD]
  rcases Nat.lt_or_ge i l.length with q | q
  · rw [List.getElem?_append_left q]
  · rw [List.getElem?_append_right q, List.getElem?_eq_none q, List.getElem?_replicate]
    split <;> rfl
theorem getD_set' {α : Type} (l : List (List α)) (d : Nat) (x : List α) (d' : Nat) : (l.set d x).getD d' [] = if d' = d ∧ d < l.length then x else l.getD d' [] := by
  simp only [List.getD_eq_getElem?_getD, List.getElem?_set]
  by_cases e : d = d'
  · subst e
    by_cases hd : d < l.length
    · simp [hd]
    · simp [hd]
  · rw [if_neg e, if_neg (fun q => e q.1.symm)]
/-- Places for new blocks. -/
theorem At.push {n : Nat} (hat : At P F0 H0 h0 w0 d ts s a w) : At P F0 H0 h0 w0 d ts (pushB s d n) a w := by
  obtain ⟨F, H, hst, hA, hd, hlp, hdf⟩ := hat
  have S := hst.sr
  have st : Stp F H s.fr w F (H.set d (H.getD d [] ++ List.replicate n none)) (s.fr.set d (s.fr.getD d [] ++ List.replicate n .none)) w := by
    refine Stp.same S (by simp) (fun d' => by rw [getD_set']; split; (rename_i q; rw [q.1]; simp); exact Nat.le_refl _) (by simp [S.len]) (fun d' => ?_) (fun d' i => ?_) (fun d' i => ?_)
    · rw [getD_set', getD_set', S.len]
      split
      · simp only [List.length_append, List.length_replicate, S.lens d]
      · exact S.lens d'
    · unfold getB
      rw [getD_set']
      split
      · rename_i q; rw [q.1, getD_app_none]
      · rfl
    · unfold loc
      rw [getD_set']
      split
      · rename_i q; rw [q.1, getD_app_none]
      · rfl
  exact ⟨F, _, hst.trans st, AR.pres st hA, by simpa [pushB] using hd, hlp, hdf⟩
/-- A draw. -/
theorem At.drew (hat : At P F0 H0 h0 w0 d ts s a w) : At P F0 H0 h0 w0 d ts s a { w with drawn := w.drawn + 1 } := by
  obtain ⟨F, H, hst, hA, hd, hlp, hdf⟩ := hat
  have st := Stp.of_ext0 (w' := { w with drawn := w.drawn + 1 }) (F' := F) hst.sr ⟨rfl, rfl, rfl, Nat.le_refl _, fun _ _ q => q, fun b hb => ⟨rfl, fun _ q => q⟩, hst.sr.flt⟩
  exact ⟨F, H, hst.trans st, AR.pres st hA, hd, hlp, hdf⟩

/-- How a region's operations go together. -/
structure TrR (P : Program) (ops : Array Oper) (draw : Bool) (L : List G) (un : List (Nat × Nat)) : Prop where
  len : L.length = ops.size
  op : ∀ (i : Nat) (g : G), L[i]? = some g → ∃ o, ops[i]? = some o ∧ TrG P ops o g
  order : draw = true → P.follows .mixedOrders = true ∧ ∀ d base, RegOk d base L un (Bef ops)
theorem region_sim {α : Type} {id n : Nat} {draw : Bool} {L : List G} {un : List (Nat × Nat)} (SP : SoundPure P E) (SRh : SoundRich P E) (tr : TrR P ops draw L un) (hat : At P F0 H0 h0 w0 d ts s a w) {k : Ex → List O → St → Option α} {r : α} (hk : den E d (.ops n L un) ts s k = some r)
    (hQ : ∀ ts' s' a' w', k .normal ts' s' = some r → At P F0 H0 h0 w0 d ts' s' a' w' → Q .normal a' w') : (Code.region id ops draw).wpIn (Wd ro) 0 P Q a w := by
  simp only [den] at hk
  rw [opsSem_eq] at hk
  cases e : opsSem E d (frameLen s d) L ts (pushB s d n) fun ts s => some (ts, s) with
  | none => rw [e] at hk; cases hk
  | some p =>
    obtain ⟨ts', s'⟩ := p
    rw [e] at hk
    simp only [Option.bind_some] at hk
    split at hk <;> try (cases hk; done)
    rename_i hdis
    have hi : opsI E d (frameLen s d) L (List.range L.length) ts (pushB s d n) = some (ts', s') := by
      rw [List.range_eq_range', ← opsI_range' L 0 (by simp), e]
    cases draw with
    | false =>
      refine wpIn_region ?_
      rw [← tr.len]
      exact opsI_sim SP SRh tr.op (fun a' w' h => hQ ts' s' a' w' hk h) _ hat.push hi
    | true =>
      obtain ⟨hm, hR⟩ := tr.order rfl
      refine wpIn_region_any hm ?_
      refine any_sim SP SRh tr.len tr.op (hR d (frameLen s d)) hdis (fun a' w' h => hQ ts' s' a' w' hk h) ops.size (l := List.range L.length) (by simp [tr.len]) List.pairwise_lt_range (by simp) (fun j => ?_) (fun z i hb hi hz => ?_) hat.push.drew hi
      · rw [List.mem_range, tr.len]
        constructor
        · intro q; exact ⟨q, by simp [q]⟩
        · exact fun q => q.1
      · rw [List.mem_range, tr.len]; exact hi
end
end Go.Ab

/-! ## As22 -/
namespace Go.Ab
open Go.RowKit

def exOf : Ex → Exit
  | .normal => .normal
  | .exit id => .exit id
  | .goto l => .goto l
  | .ret => .ret

inductive TrCode (P : Program) : Code → IC → Prop
  | skip : TrCode P .skip .skip
  | ret : TrCode P .ret .ret
  | exit {id : Nat} : TrCode P (.exit id) (.exit id)
  | region {id n : Nat} {ops : Array Oper} {draw : Bool} {L : List G} {un : List (Nat × Nat)} (h : TrR P ops draw L un) : TrCode P (.region id ops draw) (.ops n L un)
  | seq {a b : Code} {x y : IC} (h1 : TrCode P a x) (h2 : TrCode P b y) : TrCode P (.seq a b) (.seq x y)
  | cond {c : Operand} {c' : Arg} {a b : Code} {x y : IC} (hc : TrA c c') (h1 : TrCode P a x) (h2 : TrCode P b y) : TrCode P (.cond c a b) (.cond c' x y)
  | block {id : Nat} {a : Code} {x : IC} (h : TrCode P a x) : TrCode P (.block id a) (.block id x)
  | loop {kill ko : List Nat} {a : Code} {x : IC} (h : TrCode P a x) : TrCode P (.loop a) (.loop kill ko x)

/-- A loop whose round begins. -/
def loopW (F : Fence) (n : Nat) (P : Program) (c : Code) (Q : Exit → Act → World → Prop) (a : Act) (w : World) : Prop :=
  ∀ (b : Frame) (k : List Item) (cs : List Frame), b.roundOf = F.round → F.fn b.fn → F.room (cs.length + 1 + n) →
    ∃ e a' w', Q e a' w' ∧ ArrivesIn (Machine.fenced P F) P (lone (b.atR a (.code c :: .inLoop c :: k)) cs w) b k cs e a' w'
theorem loopW.loop {F : Fence} {n : Nat} {P : Program} {c : Code} {Q : Exit → Act → World → Prop} {a : Act} {w : World} (h : loopW F n P c Q a w) : (Code.loop c).wpIn F n P Q a w := by
  intro b k cs hro hb hr
  obtain ⟨e, a', w', hq, harr⟩ := h b k cs hro hb hr
  exact ⟨e, a', w', hq, .of_steps (.one (fenced_calm hb hr rfl) stepR_loop) harr⟩
theorem loopW.round {F : Fence} {n : Nat} {P : Program} {c : Code} {Q : Exit → Act → World → Prop} {a : Act} {w : World} (h : c.wpIn F n P (Exit.then (loopW F n P c Q) Q) a w) : loopW F n P c Q a w := by
  intro b k cs hro hb hr
  obtain ⟨e, a₁, w₁, hq, harr⟩ := h b (.inLoop c :: k) cs hro hb hr
  cases e with
  | normal =>
    obtain ⟨e₂, a₂, w₂, hq₂, harr₂⟩ := hq b k cs hro hb hr
    exact ⟨e₂, a₂, w₂, hq₂, .of_steps (StepsIn.trans harr (.one (fenced_calm hb hr rfl) stepR_inLoop)) harr₂⟩
  | exit id => exact ⟨_, a₁, w₁, hq, .pass (x := .inLoop c) rfl (fun _ _ => .inl (by simp)) harr⟩
  | goto l => exact ⟨_, a₁, w₁, hq, .pass (x := .inLoop c) rfl (fun _ _ => .inl (by simp)) harr⟩
  | ret => exact ⟨_, a₁, w₁, hq, .pass (x := .inLoop c) rfl (fun _ _ => .inl (by simp)) harr⟩
  | panic ch => exact ⟨_, a₁, w₁, hq, .pass (x := .inLoop c) rfl (fun _ _ => .inl (by simp)) harr⟩
  | outgrown => exact ⟨_, a₁, w₁, hq, .pass (x := .inLoop c) rfl (fun _ _ => .inl (by simp)) harr⟩
theorem loopW.mono {F : Fence} {n : Nat} {P : Program} {c : Code} {Q Q' : Exit → Act → World → Prop} {a : Act} {w : World} (h : loopW F n P c Q a w) (hq : ∀ e a w, Q e a w → Q' e a w) : loopW F n P c Q' a w := by
  intro b k cs hro hb hr
  obtain ⟨e, a', w', q, r⟩ := h b k cs hro hb hr
  exact ⟨e, a', w', hq _ _ _ q, r⟩

section
variable {h0 : Heap} {w0 : World} {F0 : Fz} {H0 : Hs} {d : Nat} {P : Program} {s : St} {a : Act} {w : World}
theorem At.kill (l : List Nat) : ∀ {ts : List O}, At P F0 H0 h0 w0 d ts s a w → At P F0 H0 h0 w0 d (killTs l ts) s a w := by
  induction l with
  | nil => intro ts h; exact h
  | cons t r ih =>
    intro ts hat
    obtain ⟨F, H, hst, hA, rest⟩ := hat
    refine ih ⟨F, H, hst, ⟨by simpa using hA.len, by simpa using hA.lim, fun n => ?_⟩, rest⟩
    have hn := hA.val n
    simp only [List.getD_eq_getElem?_getD] at hn ⊢
    by_cases e : t = n
    · subst e
      by_cases ht : t < ts.length
      · rw [List.getElem?_set_self ht]; exact .undef _
      · rw [List.getElem?_eq_none (by simp; omega)]; exact .undef _
    · rw [List.getElem?_set_ne e]; exact hn

end
def SoundLoop (P : Program) (E : Env) : Prop := ∀ (ro : Option Nat) (d n : Nat) (kill ko : List Nat) (c : Code) (ic : IC) (ts : List O) (s : St) (res : Ex × List O × St) (F0 : Fz) (H0 : Hs) (h0 : Heap) (w0 : World) (a : Act) (w : World), TrCode P c ic →
  E.code d (.loopAt n kill ko ic) ts s = some res → (h0.getD d []).length ≤ n → At P F0 H0 h0 w0 d ts s a w → loopW (Wd ro) 0 P c (fun e' a' w' => e' = exOf res.1 ∧ At P F0 H0 h0 w0 d res.2.1 res.2.2 a' w') a w

section
variable {h0 : Heap} {w0 : World} {F0 : Fz} {H0 : Hs} {d : Nat} {P : Program} {E : Env} {ro : Option Nat}

theorem code_sim (SP : SoundPure P E) (SRh : SoundRich P E) (SL : SoundLoop P E) {c : Code} {ic : IC} (tr : TrCode P c ic) : ∀ {α : Type} {Q : Exit → Act → World → Prop} {ts : List O} {s : St} {a : Act} {w : World} {k : Ex → List O → St → Option α} {r : α},
    At P F0 H0 h0 w0 d ts s a w → den E d ic ts s k = some r → (∀ e ts' s' a' w', k e ts' s' = some r → At P F0 H0 h0 w0 d ts' s' a' w' → Q (exOf e) a' w') → c.wpIn (Wd ro) 0 P Q a w := by
  induction tr with
  | skip => intro α Q ts s a w k r hat hk hQ; exact wpIn_skip (hQ .normal _ _ _ _ hk hat)
  | ret => intro α Q ts s a w k r hat hk hQ; exact wpIn_ret (hQ .ret _ _ _ _ hk hat)
  | exit => intro α Q ts s a w k r hat hk hQ; exact wpIn_exit (hQ (.exit _) _ _ _ _ hk hat)
  | region h => intro α Q ts s a w k r hat hk hQ; exact region_sim SP SRh h hat hk fun ts' s' a' w' h1 h2 => hQ .normal _ _ _ _ h1 h2
  | seq h1 h2 ih1 ih2 =>
    intro α Q ts s a w k r hat hk hQ
    refine wpIn_seq (ih1 hat hk fun e ts' s' a' w' hk' hat' => ?_)
    cases e with
    | normal => exact ih2 hat' hk' hQ
    | exit id => exact hQ (.exit id) _ _ _ _ hk' hat'
    | goto l => exact hQ (.goto l) _ _ _ _ hk' hat'
    | ret => exact hQ .ret _ _ _ _ hk' hat'
  | cond hc h1 h2 ih1 ih2 =>
    intro α Q ts s a w k r hat hk hQ
    simp only [den] at hk
    split at hk <;> try (cases hk; done)
    rename_i t e
    have hat' := hat
    obtain ⟨F, H, hst, hA, _⟩ := hat
    have hv := hc.ro hA
    rw [e] at hv
    refine wpIn_cond_split (ro_bool hv) (fun ht => ?_) (fun ht => ?_)
    · subst ht; exact ih1 hat' (by simpa using hk) hQ
    · subst ht; exact ih2 hat' (by simpa using hk) hQ
  | @block id b x h ih =>
    intro α Q ts s a w k r hat hk hQ
    refine wpIn_block (ih hat hk fun e ts' s' a' w' hk' hat' => ?_)
    cases e with
    | normal => exact hQ .normal _ _ _ _ hk' hat'
    | exit id' =>
      simp only at hk'
      by_cases hid : id' = id
      · rw [if_pos hid] at hk'
        simp only [exOf, Exit.inBlock, hid, if_true]
        exact hQ .normal _ _ _ _ hk' hat'
      · rw [if_neg hid] at hk'
        simp only [exOf, Exit.inBlock, hid, if_false]
        exact hQ (.exit id') _ _ _ _ hk' hat'
    | goto l => exact hQ (.goto l) _ _ _ _ hk' hat'
    | ret => exact hQ .ret _ _ _ _ hk' hat'
  | @loop kill ko b x h ih =>
    intro α Q ts s a w k r hat hk hQ
    simp only [den] at hk
    cases e : E.code d (.loopAt (frameLen s d) kill ko x) (killTs kill ts) s with
    | none => rw [e] at hk; cases hk
    | some res =>
      rw [e] at hk
      have hle : (h0.getD d []).length ≤ frameLen s d := by
        obtain ⟨F, H, hst, _⟩ := hat
        exact hst.lens d
      refine (loopW.mono (SL ro d _ kill ko b x (killTs kill ts) s res F0 H0 h0 w0 a w h e hle (hat.kill kill)) fun e' a' w' hq => ?_).loop
      obtain ⟨rfl, hat'⟩ := hq
      exact hQ _ _ _ _ _ hk hat'
end
end Go.Ab

/-! ## As23 -/
namespace Go.Ab
open Go.RowKit

section
variable {h0 : Heap} {w0 : World} {F0 : Fz} {H0 : Hs} {d : Nat} {P : Program} {E : Env} {ro : Option Nat} {ts : List O} {s : St} {a : Act} {w : World}

theorem RowAt.eq {F : Fz} {H H' : Hs} {h h' : Heap} {d i sz n cap : Nat} {ad : Option Addr} (hg : getB h' d i = getB h d i) (hl : loc H' d i = loc H d i) (hr : RowAt F H h w d i sz n ad cap) : RowAt F H' h' w d i sz n ad cap := by
  unfold RowAt at hr ⊢
  have hO : ∀ n a cap, Own H w d i sz n a cap → Own H' w d i sz n a cap := by
    rintro n a cap (⟨q1, q2, q3⟩ | ⟨b, us, t, h1, h2⟩)
    · exact .inl ⟨q1, q2, hl.trans q3⟩
    · exact .inr ⟨b, us, t, hl.trans h1, h2⟩
  rw [hg]
  cases hb : getB h d i with
  | none => rw [hb] at hr; exact hr
  | vars cs => rw [hb] at hr; exact hr
  | map f => rw [hb] at hr; exact hr
  | arr sz' n' get => rw [hb] at hr; obtain ⟨q1, q2, q3, q4, q5⟩ := hr; exact ⟨q1, q2, q3, q4, fun e => hO _ _ _ (q5 e)⟩
  | mar sz' n' get => rw [hb] at hr; obtain ⟨q1, q2, q3⟩ := hr; exact ⟨q1, q2, fun e => hO _ _ _ (q3 e)⟩
  | far sz' n' get => rw [hb] at hr; exact hr
theorem ElemAt.eq {F : Fz} {H H' : Hs} {h h' : Heap} {d i n e off : Nat} {ad : Addr} (hg : getB h' d i = getB h d i) (hl : loc H' d i = loc H d i) (hr : ElemAt F H h w d i n e off ad) : ElemAt F H' h' w d i n e off ad := by
  unfold ElemAt at hr ⊢
  rw [hg]
  cases hb : getB h d i with
  | none => rw [hb] at hr; exact hr
  | vars cs => rw [hb] at hr; exact hr
  | map f => rw [hb] at hr; exact hr
  | arr sz' n' get => rw [hb] at hr; exact hr
  | mar sz' n' get =>
    rw [hb] at hr
    refine ⟨hr.1, fun q => ?_⟩
    obtain ⟨k1, b, k2, k3⟩ := hr.2 q
    exact ⟨k1, b, hl.trans k2, k3⟩
  | far sz' n' get => rw [hb] at hr; exact hr
/-- A value whose ways all lead where nothing has turned. -/
theorem RO.stay {F : Fz} {H H' : Hs} {h h' : Heap} {A : Nat → Nat → Prop} (hg : ∀ d i, A d i → getB h' d i = getB h d i) (hl : ∀ d i, A d i → loc H' d i = loc H d i) {o : O} {v : Value} (hr : RO F H h w A o v) : RO F H' h' w A o v := by
  induction hr with
  | c hv => exact .c hv
  | undef u => exact .undef u
  | nils a => exact .nils a
  | ref q hk hl' => exact .ref q (by rw [hg _ _ q]; exact hk) ((hl _ _ q).trans hl')
  | eref q ha => exact .eref q (ha.eq (hg _ _ q) (hl _ _ q))
  | arr q hs hr => exact .arr q hs (hr.eq (hg _ _ q) (hl _ _ q))
  | vsl q hk hl' hn ho => exact .vsl q (by rw [hg _ _ q]; exact hk) ((hl _ _ q).trans hl') hn ho
  | func ha hb hva hvb iha ihb => exact .func ha hb iha ihb
  | agg hl hv ih => exact .agg hl ih
  | tuple hl hv ih => exact .tuple hl ih
/-- What 'lowOk' says. -/
theorem lowOk_sim {F : Fz} {H : Hs} {h : Heap} {A : Nat → Nat → Prop} {d n : Nat} {o : O} {v : Value} (hr : RO F H h w A o v) : ∀ k, lowOk k d n o = true → RO F H h w (fun d' i => A d' i ∧ (d' = d → i < n)) o v := by
  have b : ∀ {dd i : Nat}, (dd != d || decide (i < n)) = true → (dd = d → i < n) := by
    intro dd i h e
    simp only [Bool.or_eq_true, bne_iff_ne, ne_eq, decide_eq_true_eq] at h
    exact h.resolve_left (fun q => q e)
  induction hr with
  | c hv => exact fun _ _ => .c hv
  | undef u => exact fun _ _ => .undef u
  | nils a => exact fun _ _ => .nils a
  | ref hA hk hl => exact fun k e => .ref ⟨hA, b (by cases k <;> simpa [lowOk] using e)⟩ hk hl
  | eref hA ha => exact fun k e => .eref ⟨hA, b (by cases k <;> simpa [lowOk] using e)⟩ ha
  | arr hA hs hr => exact fun k e => .arr ⟨hA, b (by cases k <;> simpa [lowOk] using e)⟩ hs hr
  | vsl hA hk hl hn ho => exact fun k e => .vsl ⟨hA, b (by cases k <;> simpa [lowOk] using e)⟩ hk hl hn ho
  | func ha hb hva hvb iha ihb =>
    intro k e
    cases k with
    | zero => simp [lowOk] at e
    | succ k =>
      simp only [lowOk, Bool.and_eq_true, List.all_eq_true] at e
      exact .func ha hb (fun j c u hc hu => iha j c u hc hu k (e.1 c (List.mem_of_getElem? hc))) (fun j c u hc hu => ihb j c u hc hu k (e.2 c (List.mem_of_getElem? hc)))
  | agg hl hv ih =>
    intro k e
    cases k with
    | zero => simp [lowOk] at e
    | succ k =>
      simp only [lowOk, List.all_eq_true] at e
      exact .agg hl (fun j c u hc hu => ih j c u hc hu k (e c (List.mem_of_getElem? hc)))
  | tuple hl hv ih =>
    intro k e
    cases k with
    | zero => simp [lowOk] at e
    | succ k =>
      simp only [lowOk, List.all_eq_true] at e
      exact .tuple hl (fun j c u hc hu => ih j c u hc hu k (e c (List.mem_of_getElem? hc)))

theorem RO.used {F : Fz} {H : Hs} {h : Heap} {A : Nat → Nat → Prop} {o : O} {v : Value} (hr : RO F H h w A o v) : RO F H h w (fun d i => A d i ∧ getB h d i ≠ .none) o v := by
  induction hr with
  | c hv => exact .c hv
  | undef u => exact .undef u
  | nils a => exact .nils a
  | ref q hk hl => exact .ref ⟨q, fun e => by rw [e] at hk; simp [isVars] at hk⟩ hk hl
  | eref q ha => exact .eref ⟨q, fun e => by unfold ElemAt at ha; rw [e] at ha; exact ha⟩ ha
  | arr q hs hr => exact .arr ⟨q, fun e => by unfold RowAt at hr; rw [e] at hr; exact hr⟩ hs hr
  | vsl q hk hl hn ho => exact .vsl ⟨q, fun e => by rw [e] at hk; simp [isVars] at hk⟩ hk hl hn ho
  | func ha hb hva hvb iha ihb => exact .func ha hb iha ihb
  | agg hl hv ih => exact .agg hl ih
  | tuple hl hv ih => exact .tuple hl ih
theorem getD_take {α : Type} (l : List α) (n i : Nat) (z : α) : (l.take n).getD i z = if i < n then l.getD i z else z := by
  simp only [List.getD_eq_getElem?_getD, List.getElem?_take]
  split <;> rfl
/-- Blocks of an activation let go. -/
theorem Stp.drop {F : Fz} {H : Hs} {h : Heap} {n : Nat} (hst : Stp F0 H0 h0 w0 F H h w) (hle : (h0.getD d []).length ≤ n) (hlen : h.length = d + 1) (hlow : ((h.getD d []).take n).all (lowBlk d n) = true) :
    Stp F0 H0 h0 w0 F (H.set d ((H.getD d []).take n)) (h.set d ((h.getD d []).take n)) w ∧
      ∀ o v, RO F H h w (fun d' i => d' ≤ d ∧ (d' = d → i < n)) o v → RO F (H.set d ((H.getD d []).take n)) (h.set d ((h.getD d []).take n)) w (AOk d) o v := by
  have S := hst.sr
  have hg : ∀ d' i, getB (h.set d ((h.getD d []).take n)) d' i = if d' = d ∧ ¬ i < n then .none else getB h d' i := by
    intro d' i
    unfold getB
    rw [getD_set']
    by_cases e : d' = d
    · subst e
      rw [if_pos ⟨rfl, by omega⟩, getD_take]
      by_cases hi : i < n <;> simp [hi]
    · rw [if_neg (fun q => e q.1), if_neg (fun q => e q.1)]
  have hl : ∀ d' i, loc (H.set d ((H.getD d []).take n)) d' i = if d' = d ∧ ¬ i < n then none else loc H d' i := by
    intro d' i
    unfold loc
    rw [getD_set']
    by_cases e : d' = d
    · subst e
      rw [if_pos ⟨rfl, by rw [S.len]; omega⟩, getD_take]
      by_cases hi : i < n <;> simp [hi]
    · rw [if_neg (fun q => e q.1), if_neg (fun q => e q.1)]
  have stay : ∀ {A : Nat → Nat → Prop} {o : O} {v : Value}, (∀ d' i, A d' i → d' = d → i < n) → RO F H h w A o v → RO F (H.set d ((H.getD d []).take n)) (h.set d ((h.getD d []).take n)) w A o v := fun hA hr =>
    RO.stay (fun d' i q => by rw [hg, if_neg (fun e => e.2 (hA d' i q e.1))]) (fun d' i q => by rw [hl, if_neg (fun e => e.2 (hA d' i q e.1))]) hr
  refine ⟨⟨⟨by simp [S.len], fun d' => ?_, ?_, ?_, S.flt, fun d' i => ?_⟩, ⟨hst.ext.os, hst.ext.tape, hst.ext.output, hst.ext.size, hst.ext.sub, hst.ext.fix, fun b hb hu => ?_⟩, ?_, by simp [hst.len], fun d' => ?_⟩, fun o v hr => (stay (fun d' i q e => q.2 e) hr).monoA fun d' i q => q.1⟩
  · rw [getD_set', getD_set', S.len]
    split
    · simp only [List.length_take, S.lens]
    · exact S.lens d'
  · intro d1 i1 d2 i2 b h1 h2
    rw [hl] at h1 h2
    split at h1 <;> try (cases h1; done)
    split at h2 <;> try (cases h2; done)
    exact S.inj _ _ _ _ _ h1 h2
  · intro d1 i1 b h1
    rw [hl] at h1
    split at h1 <;> try (cases h1; done)
    exact S.lt _ _ _ h1
  · rw [hg]
    split
    · rename_i q; show loc _ _ _ = none; rw [hl, if_pos q]
    · rename_i q
      have hold := S.blk d' i
      have hl' : loc (H.set d ((H.getD d []).take n)) d' i = loc H d' i := by rw [hl, if_neg q]
      cases hb : getB h d' i with
      | none => rw [hb] at hold; exact hl'.trans hold
      | vars cs =>
        rw [hb] at hold
        obtain ⟨b, us, t, h1, h2, h3, h4, h5⟩ := hold
        refine ⟨b, us, t, hl'.trans h1, h2, h3, h4, fun j o u ho hu => ?_⟩
        have hro := h5 j o u ho hu
        obtain ⟨k1, k2⟩ := getB_in (h := h) (d := d') (i := i) (by rw [hb]; simp)
        by_cases e : d' = d
        · subst e
          have hi : i < n := by
            rcases Nat.lt_or_ge i n with r | r
            · exact r
            · exact absurd ⟨rfl, by omega⟩ q
          have hm : Blk.vars cs ∈ (h.getD d' []).take n := by
            unfold getB at hb
            rw [List.getD_eq_getElem?_getD, List.getElem?_eq_getElem k2] at hb
            simp only [Option.getD_some] at hb
            rw [← hb]
            exact List.mem_take_iff_getElem.2 ⟨i, Nat.lt_min.2 ⟨hi, k2⟩, rfl⟩
          have := List.all_eq_true.1 hlow _ hm
          simp only [lowBlk, List.all_eq_true] at this
          have hlo := this o (List.mem_of_getElem? ho)
          exact (stay (fun d2 i2 q e => q.2 e) (lowOk_sim hro 9 hlo)).monoA fun d2 i2 q => q.1
        · exact stay (fun d2 i2 q2 e2 => by have q2 : d2 ≤ d' := q2; omega) hro
      | arr sz m get =>
        rw [hb] at hold
        rcases hold with ⟨q1, q2⟩ | ⟨b, us, t, h1, h2⟩
        · exact .inl ⟨q1, hl'.trans q2⟩
        · exact .inr ⟨b, us, t, hl'.trans h1, h2⟩
      | mar sz m get =>
        rw [hb] at hold
        rcases hold with ⟨q1, q2⟩ | ⟨b, us, t, h1, h2⟩
        · exact .inl ⟨q1, hl'.trans q2⟩
        · exact .inr ⟨b, us, t, hl'.trans h1, h2⟩
      | far sz m get => trivial
      | map f => rw [hb] at hold; exact hold
  · obtain ⟨k1, k2, k3⟩ := hst.ext.old b hb hu
    refine ⟨k1, k2, ?_⟩
    rintro ⟨d', i, q1, q2⟩
    rw [hl] at q1
    split at q1 <;> try (cases q1; done)
    rename_i q3
    rw [hg, if_neg q3] at q2
    exact k3 ⟨d', i, q1, q2⟩
  · intro A o v hr
    have h1 := hst.pres _ _ _ hr.used
    refine (stay (fun d' i q e => ?_) h1).monoA fun d' i q => q.1
    subst e
    have := (getB_in q.2).2
    omega
  · rw [getD_set']
    split
    · rename_i q
      rw [q.1, List.length_take]
      have := hst.lens d
      omega
    · exact hst.lens d'
theorem At.cut {n : Nat} {s1 : St} (hat : At P F0 H0 h0 w0 d ts s a w) (hle : (h0.getD d []).length ≤ n) (hc : cut d n ts s = some s1) : At P F0 H0 h0 w0 d ts s1 a w := by
  unfold Go.Ab.cut at hc
  split at hc
  · rename_i q
    split at hc <;> cases hc
    rename_i hlow
    simp only [Bool.and_eq_true] at hlow
    obtain ⟨F, H, hst, hA, hd, hlp, hdf⟩ := hat
    obtain ⟨k1, k2⟩ := hst.drop hle q.1 hlow.2
    refine ⟨F, _, k1, ⟨hA.len, hA.lim, fun t => ?_⟩, by simpa using hd, hlp, hdf⟩
    have hv := hA.val t
    by_cases ht : t < ts.length
    · have e1 : ts.getD t .undef = ts[t] := by rw [List.getD_eq_getElem?_getD, List.getElem?_eq_getElem ht]; rfl
      rw [e1] at hv ⊢
      exact k2 _ _ (lowOk_sim hv 9 (List.all_eq_true.1 hlow.1 _ (List.getElem_mem ht)))
    · have e1 : ts.getD t .undef = .undef := by rw [List.getD_eq_getElem?_getD, List.getElem?_eq_none (by omega)]; rfl
      rw [e1]; exact .undef _
  · cases hc; exact hat

theorem At.cutS {n : Nat} (hat : At P F0 H0 h0 w0 d ts s a w) (hle : (h0.getD d []).length ≤ n) : At P F0 H0 h0 w0 d ts ((Go.Ab.cut d n ts s).getD s) a w := by
  cases e : Go.Ab.cut d n ts s with
  | none => exact hat
  | some s1 => exact hat.cut hle e

theorem soundLoop_step {X : Table} (SP : SoundPure P E) (SRh : SoundRich P E) (SL : SoundLoop P E) : SoundLoop P (step X E) := by
  intro ro d n kill ko c ic ts s res F0 H0 h0 w0 a w tr hk hle hat
  have hk : stepCode E d (.loopAt n kill ko ic) ts s = some res := hk
  simp only [stepCode] at hk
  split at hk <;> try (cases hk; done)
  rename_i s1 e1
  refine loopW.round (code_sim SP SRh SL tr (hat.cut hle e1) hk fun e ts' s' a' w' hk' hat' => ?_)
  cases e with
  | normal => exact SL ro d n kill ko c ic _ s' res F0 H0 h0 w0 a' w' tr hk' hle (hat'.kill kill)
  | exit id => cases hk'; exact ⟨rfl, (hat'.kill ko).cutS hle⟩
  | goto l => cases hk'; exact ⟨rfl, (hat'.kill ko).cutS hle⟩
  | ret => cases hk'; exact ⟨rfl, (hat'.kill ko).cutS hle⟩
end
end Go.Ab

/-! ## As24 -/
namespace Go.Ab
open Go.RowKit

theorem mapM_some {α β : Type} {f : α → Option β} : ∀ {l : List α} {m : List β}, l.mapM f = some m → m.length = l.length ∧ ∀ (j : Nat) (x : α) (y : β), l[j]? = some x → m[j]? = some y → f x = some y := by
  intro l
  induction l with
  | nil => intro m h; simp at h; subst h; exact ⟨rfl, fun j x y hx => by simp at hx⟩
  | cons a l ih =>
    intro m h
    simp only [List.mapM_cons, Option.bind_eq_bind, Option.pure_def] at h
    cases ha : f a with
    | none => rw [ha] at h; cases h
    | some b =>
      rw [ha] at h
      cases hl : l.mapM f with
      | none => rw [hl] at h; cases h
      | some r =>
        rw [hl] at h
        cases h
        obtain ⟨h1, h2⟩ := ih hl
        refine ⟨by simp [h1], fun j x y hx hy => ?_⟩
        cases j with
        | zero => simp at hx hy; subst hx; subst hy; exact ha
        | succ j => simp only [List.getElem?_cons_succ] at hx hy; exact h2 j x y hx hy

/-- A block that is still written. -/
def Live : Blk → Prop
  | .vars _ => True
  | .mar _ _ _ => True
  | _ => False

section
variable {F F' : Fz} {H : Hs} {h : Heap} {w : World} {P : Program}

theorem toC_sim {m : Nat} (S : SR F H h w) (hsub : ∀ b o, F b o → F' b o) (hAll : ∀ d i b o, m ≤ d → Live (getB h d i) → loc H d i = some b → F' b o) : ∀ (f : Nat) {A : Nat → Nat → Prop} {sl : PT} {o : O} {c : C} {v : Value}, RO F H h w A o v → toC h m f sl o = some c → VR F' w c v := by
  have up : ∀ {c : C} {v : Value}, VR F w c v → VR F' w c v := fun hv => hv.mono hsub fun _ _ _ => rfl
  have arrCase : ∀ {A : Nat → Nat → Prop} {sl : PT} {d i sz n f : Nat} {c : C} {v : Value}, RO F H h w A (.arr d i sz n) v → toC h m f sl (.arr d i sz n) = some c → VR F' w c v := by
    intro A sl d i sz n f c v hr hk
    obtain ⟨ad, cap, rfl, _, hrow, _⟩ := ro_arr hr
    unfold RowAt at hrow
    have hk2 : toCarr h m d i n = some c := by cases f <;> simpa only [toC] using hk
    clear hk
    unfold toCarr at hk2
    cases hb : getB h d i with
    | arr sz' n' get =>
      rw [hb] at hk2 hrow
      obtain ⟨_, _, hv, _, _⟩ := hrow
      simp only at hk2
      split at hk2
      · cases hk2; exact up hv
      · split at hk2 <;> cases hk2
        exact up (hv.slice_congr fun e he => by simp [sSlice, he])
    | mar sz' n' get =>
      rw [hb] at hk2 hrow
      obtain ⟨rfl, _, hO⟩ := hrow
      simp only at hk2
      split at hk2 <;> cases hk2
      rename_i hc
      obtain ⟨rfl, hmd⟩ := hc
      rcases S.rowM hb (hO rfl) with ⟨rfl, rfl, _⟩ | ⟨b, us, t, hl, rfl, hh, _, hnc, _, hrc⟩
      · exact .slice0
      · exact VR.of_row hh (fun o _ => hAll d i b o hmd (by rw [hb]; trivial) hl) (hrc.mono hsub fun _ _ _ => rfl) hnc
    | far sz' n' get =>
      rw [hb] at hk2 hrow
      simp only at hk2
      split at hk2 <;> cases hk2
      rename_i hc
      exact up (hrow hc).1
    | none => rw [hb] at hrow; exact hrow.elim
    | vars cs => rw [hb] at hrow; exact hrow.elim
    | map g => rw [hb] at hrow; exact hrow.elim
  have flatCase : ∀ {A : Nat → Nat → Prop} {sl : PT} {o : O} {f : Nat} {c : C} {v : Value}, (∃ c', o = .c c') ∨ o = .nils → RO F H h w A o v → toC h m f sl o = some c → VR F' w c v := by
    intro A sl o f c v ho hr hk
    rcases ho with ⟨c', rfl⟩ | rfl
    · have hk : some c' = some c := by cases f <;> simpa only [toC] using hk
      cases hk
      cases hr with | c hv => exact up hv
    · have hk : (ptAt sl 0).map nilC = some c := by cases f <;> simpa only [toC] using hk
      obtain ⟨z, _, rfl⟩ := Option.map_eq_some_iff.1 hk
      obtain ⟨ad, rfl⟩ := ro_nils hr
      exact .slice0
  intro f
  induction f with
  | zero =>
    intro A sl o c v hr hk
    cases o with
    | c c' => exact flatCase (.inl ⟨_, rfl⟩) hr hk
    | nils => exact flatCase (.inr rfl) hr hk
    | arr d i sz n => exact arrCase hr hk
    | mref d i => cases hr
    | _ => simp [toC] at hk
  | succ f ih =>
    intro A sl o c v hr hk
    cases o with
    | c c' => exact flatCase (.inl ⟨_, rfl⟩) hr hk
    | nils => exact flatCase (.inr rfl) hr hk
    | arr d i sz n => exact arrCase hr hk
    | mref d i => cases hr
    | ref d i off =>
      obtain ⟨b, rfl, _, _, hl⟩ := ro_ref hr
      simp only [toC] at hk
      split at hk <;> try (cases hk; done)
      rename_i hmd
      split at hk <;> try (cases hk; done)
      rename_i cs e
      split at hk <;> cases hk
      rename_i l e2
      have hb := S.blk d i
      rw [e] at hb
      obtain ⟨b2, us, t, q1, q2, q3, q4, q5⟩ := hb
      rw [hl] at q1; cases q1
      obtain ⟨hlen, hel⟩ := mapM_some e2
      refine .imm (us := (us.toList.drop off).take (cs.length - off)) (by simp at hlen ⊢; omega) (fun j hj => hAll d i b _ hmd (by rw [e]; trivial) hl) (fun j u hu => ?_) (fun j c u hc hu => ?_)
      · rw [List.getElem?_take] at hu
        split at hu
        · rw [List.getElem?_drop] at hu
          rw [cell_of_cells q2]; simpa using hu
        · cases hu
      · rw [List.getElem?_take] at hu
        split at hu
        · rename_i hj
          rw [List.getElem?_drop] at hu
          have hjc : off + j < cs.length := by omega
          have hx : (cs.drop off)[j]? = some cs[off + j] := by rw [List.getElem?_drop, List.getElem?_eq_getElem hjc]
          exact ih (q5 (off + j) cs[off + j] u (List.getElem?_eq_getElem hjc) (by simpa using hu)) (hel j _ _ hx hc)
        · cases hu
    | func g a b =>
      obtain ⟨us, vs, rfl, h1, h2, h3, h4⟩ := ro_funcO hr
      simp only [toC] at hk
      split at hk <;> cases hk
      rename_i la lb e1 e2
      obtain ⟨l1, k1⟩ := mapM_some e1
      obtain ⟨l2, k2⟩ := mapM_some e2
      refine .func (by omega) (by omega) (fun j c u hc hu => ?_) (fun j c u hc hu => ?_)
      · have hj : j < a.length := by rw [← l1]; exact (List.getElem?_eq_some_iff.1 hc).1
        exact ih (h3 j _ u (List.getElem?_eq_getElem hj) hu) (k1 j _ _ (List.getElem?_eq_getElem hj) hc)
      · have hj : j < b.length := by rw [← l2]; exact (List.getElem?_eq_some_iff.1 hc).1
        exact ih (h4 j _ u (List.getElem?_eq_getElem hj) hu) (k2 j _ _ (List.getElem?_eq_getElem hj) hc)
    | agg cs =>
      obtain ⟨us, rfl, h1, h3⟩ := ro_aggO hr
      simp only [toC] at hk
      split at hk <;> cases hk
      rename_i l e1
      obtain ⟨l1, k1⟩ := mapM_some e1
      simp only [List.length_zipIdx] at l1
      refine .agg (by omega) (fun j c u hc hu => ?_)
      have hj : j < cs.length := by rw [← l1]; exact (List.getElem?_eq_some_iff.1 hc).1
      exact ih (h3 j _ u (List.getElem?_eq_getElem hj) hu) (k1 j (cs[j], j) _ (by rw [List.getElem?_zipIdx, List.getElem?_eq_getElem hj]; simp) hc)
    | _ => simp [toC] at hk
end
end Go.Ab

/-! ## As25 -/
namespace Go.Ab
open Go.RowKit

inductive TrRV (P : Program) : ResultVar → RV → Prop
  | tmp {t : Nat} {pt : PT} : TrRV P (.tmp t) (.tmp t pt)
  | cell {a : Nat} {t : TypeId} {n : Option Nat} {pt : PT} (h : PartOf P t n) : TrRV P (.cell a t) (.cell a n pt)
structure TrF (P : Program) (f : FuncId) (ir : IFunc) : Prop where
  ex : ∃ fn c, P.funcs[f]? = some fn ∧ fn.body = some c ∧ (fn.name == "runtime.NumGoroutine") = false ∧ fn.ntmps = ir.ntmps ∧ TrCode P c ir.body ∧ All2 (TrRV P) fn.results.toList ir.results
  lim : ir.ntmps ≤ 900000
  lim2 : ir.nparams ≤ 900000

section
variable {F F' : Fz} {H : Hs} {h : Heap} {w : World} {P : Program} {d : Nat} {ts : List O} {a : Act} {s : St}

def readM (a : Act) : ResultVar → Sem Value
  | .tmp t => pure (a.tmps.getD t undef)
  | .cell b t => do loadVar t (← asAddr (a.tmps.getD b undef))
theorem readRV_sim {rv : ResultVar} {r : RV} {o : O} (tr : TrRV P rv r) (S : SR F H s.fr w) (hA : AR F H s.fr w d ts a.tmps) (hk : readRV ts s r = some o) :
    ∃ v, (readM a rv).run P w = .ok v w ∧ RO F H s.fr w (AOk d) o v := by
  cases tr with
  | @tmp t pt =>
    cases hk
    exact ⟨_, rfl, hA.val t⟩
  | @cell b t n pt hp =>
    have hv := hA.val b
    simp only [readRV] at hk
    cases e : ts.getD b .undef with
    | ref dd i off =>
      rw [e] at hk hv
      have hload : loadAt s (fun o _ => some o) n (.ref dd i off) = some o := by
        simp only [loadAt]
        simp only at hk
        split at hk <;> try (cases hk; done)
        rename_i cs e2
        try rw [e2]
        exact hk
      obtain ⟨b2, e3, hA2, hk2, hl2⟩ := ro_ref hv
      rw [e3] at hv
      obtain ⟨o', v', h1, h2, h3⟩ := load_sim hp S hv hload
      cases h1
      refine ⟨v', ?_, h3⟩
      simp only [Instr.loadAt, Instr.sureAddr, Sem.run_bind, Sem.run_pure, Result.andThen_ok] at h2
      simp only [readM, e3, asAddr, Sem.run_bind, Sem.run_pure, Result.andThen_ok]
      exact h2
    | _ => rw [e] at hk; simp only at hk; cases hk

theorem mkTuple_ro {A : Nat → Nat → Prop} {cs : List O} {us : List Value} (hr : ROs F H h w A cs us) : RO F H h w A (mkTuple cs) (.tuple us.toArray) := by
  unfold mkTuple
  split
  · rename_i l e
    have := allC_eq e
    subst this
    refine .c (.tuple (by simpa using hr.1) fun j c u hc hu => ?_)
    have h1 := hr.2 j (.c c) u (by simp [hc]) hu
    cases h1 with | c hv => exact hv
  · exact .tuple hr.1 hr.2

/-- All results of a function, each by a way of its own. -/
theorem results_sim {β : Type} {g : RV → O → Option β} {Rel : β → Value → Prop} (S : SR F H s.fr w) (hA : AR F H s.fr w d ts a.tmps) (hg : ∀ r o y v, RO F H s.fr w (AOk d) o v → g r o = some y → Rel y v) :
    ∀ {rvs : List ResultVar} {rs : List RV} {l : List β}, All2 (TrRV P) rvs rs → rs.mapM (readWith ts s g) = some l →
      ∃ us : List Value, (rvs.mapM (readM a)).run P w = .ok us w ∧ us.length = l.length ∧ ∀ (j : Nat) (y : β) (u : Value), l[j]? = some y → us[j]? = some u → Rel y u := by
  intro rvs rs l ht
  induction ht generalizing l with
  | nil =>
    intro hk
    simp at hk; subst hk
    exact ⟨[], by simp, rfl, fun j y u hy => by simp at hy⟩
  | @cons x r rvs rs hx t ih =>
    intro hk
    simp only [List.mapM_cons, Option.bind_eq_bind, Option.pure_def, readWith] at hk
    cases e1 : readRV ts s r with
    | none => rw [e1] at hk; cases hk
    | some o =>
      rw [e1] at hk
      simp only at hk
      cases e2 : g r o with
      | none => rw [e2] at hk; cases hk
      | some y =>
        rw [e2] at hk
        simp only [Option.bind_some] at hk
        cases e3 : rs.mapM (readWith ts s g) with
        | none => rw [e3] at hk; cases hk
        | some l' =>
          rw [e3] at hk
          cases hk
          obtain ⟨v, h1, h2⟩ := readRV_sim hx S hA e1
          obtain ⟨us, h3, h4, h5⟩ := ih e3
          refine ⟨v :: us, ?_, by simp [h4], fun j y' u hy hu => ?_⟩
          · simp only [List.mapM_cons, Sem.run_bind, Sem.run_pure]
            rw [h1]
            simp only [Result.andThen_ok]
            rw [h3]
            simp
          · cases j with
            | zero => simp at hy hu; subst hy; subst hu; exact hg r o _ _ h2 e2
            | succ j => simp only [List.getElem?_cons_succ] at hy hu; exact h5 j y' u hy hu
def resV : List Value → Value
  | [u] => u
  | us => .tuple us.toArray
theorem run_results {fn : Func} {us : List Value} (h : (fn.results.toList.mapM (readM a)).run P w = .ok us w) :
    (results fn a.tmps).run P w = .ok (resV us) w := by
  have e : results fn a.tmps = (do let vs ← fn.results.mapM (readM a); pure (if h : vs.size = 1 then vs[0] else .tuple vs)) := rfl
  rw [e, Array.mapM_eq_mapM_toList]
  simp only [bind_pure_comp, Sem.run_map]
  rw [h]
  simp only [Result.andThen_ok]
  cases us with
  | nil => simp [resV]
  | cons u r => cases r with
    | nil => simp [resV]
    | cons v r => simp [resV]

/-- The slots that a function begins with. -/
theorem init_AR {ir : IFunc} {args : List O} {us : List Value} (hr : ROs F H h w (AOk d) args us) (h1 : args.length ≤ 900000) (h2 : ir.ntmps ≤ 900000) :
    AR F H h w d (initTs ir args) (us.toArray ++ Array.replicate (ir.ntmps - us.toArray.size) undef) := by
  refine ⟨by simp [initTs, hr.1], by simp [initTs]; omega, fun t => ?_⟩
  unfold initTs
  have hl := hr.1
  simp only [List.getD_eq_getElem?_getD, Array.getD_eq_getD_getElem?]
  rcases Nat.lt_or_ge t args.length with q | q
  · rw [List.getElem?_append_left q, Array.getElem?_append_left (by simpa [hl] using q)]
    have q' : t < us.length := by omega
    simp only [List.getElem?_toArray]
    have := hr.2 t _ _ (List.getElem?_eq_getElem q) (List.getElem?_eq_getElem q')
    simpa [q, q'] using this
  · rw [List.getElem?_append_right q, List.getElem?_replicate]
    split <;> exact .undef _

def tupC : List C → C
  | [v] => v
  | vs => .tuple vs
def tupO : List O → O
  | [v] => v
  | vs => mkTuple vs
theorem ro_resO {A : Nat → Nat → Prop} {l : List O} {us : List Value} (hr : ROs F H h w A l us) : RO F H h w A (tupO l) (resV us) := by
  obtain ⟨hl, hv⟩ := hr
  match l, us, hl with
  | [], [], _ => exact mkTuple_ro ⟨rfl, hv⟩
  | [o], [u], _ => exact hv 0 o u rfl rfl
  | o :: o2 :: l, u :: u2 :: us, hl => exact mkTuple_ro ⟨hl, hv⟩
theorem vr_resV {l : List C} {us : List Value} (hl : us.length = l.length) (hv : ∀ (j : Nat) (c : C) (u : Value), l[j]? = some c → us[j]? = some u → VR F w c u) : VR F w (tupC l) (resV us) := by
  match l, us, hl with
  | [], [], _ => exact .tuple (us := []) rfl hv
  | [o], [u], _ => exact hv 0 o u rfl rfl
  | o :: o2 :: l, u :: u2 :: us, hl => exact .tuple (us := u :: u2 :: us) hl hv

/-- What was written since the frame 'm' began is finished. -/
def endF (F : Fz) (H : Hs) (h : Heap) (m : Nat) : Fz := fun b o => F b o ∨ ∃ d i, m ≤ d ∧ Live (getB h d i) ∧ loc H d i = some b

theorem den_isRet {α : Type} {e : Ex} (hr : isRet e = true) : exOf e = .normal ∨ exOf e = .ret := by
  cases e <;> simp [isRet] at hr <;> simp [exOf]
theorem bodyPost_of {fn : Func} {R : Ending → World → Prop} {e : Ex} {a : Act} {v : Value} (hr : isRet e = true) (hd : a.defers = []) (hv : (results fn a.tmps).run P w = .ok v w) (h : R (.returned v) w) : bodyPost P fn R (exOf e) a w := by
  cases e <;> simp [isRet] at hr
  · exact ⟨hd, v, hv, h⟩
  · exact ⟨hd, v, hv, h⟩

/-- Calls told by content. -/
theorem soundPure_step {X : Table} {E : Env} (SP : SoundPure P E) (SRh : SoundRich P E) (SL : SoundLoop P E) (hX : ∀ f ir, X.irs f = some ir → TrF P f ir)
    (hE : ∀ f p args v, X.ext f = some p → p args = some v → Ent P f ∧ ∀ (F : Fz) (w : World) (us : List Value), us.length = args.length → (∀ (j : Nat) (c : C) (u : Value), args[j]? = some c → us[j]? = some u → VR F w c u) →
      (∀ b o, F b o → b < w.heap.size) → CallsIn Fence.wide 0 P f us.toArray w fun e w' => ∃ u F', e = .returned u ∧ VR F' w' v u ∧ Ext0 F w F' w') : SoundPure P (step X E) := by
  intro f args v hk
  have hk : stepPure X E f args = some v := hk
  unfold stepPure at hk
  cases e1 : X.ext f with
  | some p => rw [e1] at hk; exact hE f p args v e1 hk
  | none =>
    rw [e1] at hk
    simp only at hk
    cases e2 : X.irs f with
    | none => rw [e2] at hk; cases hk
    | some ir =>
      rw [e2] at hk
      simp only at hk
      split at hk <;> try (cases hk; done)
      rename_i hc
      obtain ⟨_, hlen⟩ := hc
      have tr := hX f ir e2
      obtain ⟨fn, c, q1, q2, q3, q4, q5, q6⟩ := tr.ex
      refine ⟨Ent.of q1 q3 (by rw [q2]; rfl), fun F w us hul hvr hflt => ?_⟩
      have S0 : SR F [[]] [[]] w := by
        refine ⟨rfl, fun d => by cases d <;> rfl, ?_, ?_, hflt, fun d i => ?_⟩
        · intro d i d' i' b h1; have : loc [[]] d i = none := by unfold loc; cases d <;> simp
          rw [this] at h1; cases h1
        · intro d i b h1; have : loc [[]] d i = none := by unfold loc; cases d <;> simp
          rw [this] at h1; cases h1
        · have : getB [[]] d i = .none := by unfold getB; cases d <;> simp
          rw [this]; show loc [[]] d i = none; unfold loc; cases d <;> simp
      have hargs : ROs F [[]] [[]] w (AOk 0) (args.map O.c) us := ROs.of_c hul hvr
      have hat : At P F [[]] [[]] w 0 (initTs ir (args.map .c)) { fr := [[]] } { tmps := us.toArray ++ Array.replicate (fn.ntmps - us.toArray.size) undef, defers := [] } w := by
        refine ⟨F, [[]], Stp.refl S0, ?_, by simp, rfl, rfl⟩
        rw [q4]
        exact init_AR hargs (by rw [List.length_map, hlen]; exact tr.lim2) tr.lim
      refine callsIn_of_wp q1 q2 trivial ?_
      refine code_sim (ro := none) SP SRh SL q5 hat hk fun e ts' s' a' w' hk' hat' => ?_
      unfold retC at hk'
      split at hk' <;> try (cases hk'; done)
      rename_i hret
      obtain ⟨F1, H1, st, hA, hd, hlp, hdf⟩ := hat'
      cases e3 : ir.results.mapM (readWith ts' s' fun r o => toC s'.fr 0 9 r.pt o) with
      | none => rw [e3] at hk'; cases hk'
      | some l =>
        rw [e3] at hk'
        obtain ⟨us', r1, r2, r3⟩ := results_sim (Rel := VR (endF F1 H1 s'.fr 0) w') (g := fun r o => toC s'.fr 0 9 r.pt o) st.sr hA (fun r o y v hro hy => toC_sim st.sr (fun b o q => .inl q) (fun d i b o h1 h2 h3 => .inr ⟨d, i, h1, h2, h3⟩) 9 hro hy) q6 e3
        have hv : v = (tupC l) := by
          match l, hk' with
          | [], hk' => cases hk'; rfl
          | [x], hk' => cases hk'; rfl
          | x :: y :: l, hk' => cases hk'; rfl
        refine bodyPost_of hret hdf (run_results r1) ⟨_, endF F1 H1 s'.fr 0, rfl, by rw [hv]; exact vr_resV r2 r3, ?_⟩
        have nu : ∀ b, ¬ Used [[]] [[]] b := by
          rintro b ⟨d, i, h1, _⟩
          have : loc [[]] d i = none := by unfold loc; cases d <;> simp
          rw [this] at h1; cases h1
        refine ⟨st.ext.os, st.ext.tape, st.ext.output, st.ext.size, fun b o q => .inl (st.ext.sub b o q), fun b hb => ?_, fun b o q => ?_⟩
        · obtain ⟨k1, k2, k3⟩ := st.ext.old b hb (nu b)
          refine ⟨k1, fun o q => ?_⟩
          rcases q with q | ⟨d, i, _, h2, h3⟩
          · exact k2 o q
          · exact absurd ⟨d, i, h3, by revert h2; cases getB s'.fr d i <;> simp [Live]⟩ k3
        · rcases q with q | ⟨d, i, _, h2, h3⟩
          · exact st.sr.flt b o q
          · exact st.sr.lt d i b h3
end
end Go.Ab

/-! ## As26 -/
namespace Go.Ab
open Go.RowKit

section
variable {F F' F1 : Fz} {H H1 : Hs} {h h1 : Heap} {w w' : World} {P : Program} {d : Nat} {ts : List O} {a : Act} {s : St}

theorem getD_app_nil {α : Type} (l : List (List α)) (d : Nat) : (l ++ [[]]).getD d [] = l.getD d [] := by
  simp only [List.getD_eq_getElem?_getD]
  rcases Nat.lt_or_ge d l.length with q | q
  · rw [List.getElem?_append_left q]
  · rw [List.getElem?_append_right q, List.getElem?_eq_none q]
    cases e : d - l.length with
    | zero => rfl
    | succ n => rfl
theorem getB_push (d i : Nat) : getB (h ++ [[]]) d i = getB h d i := by unfold getB; rw [getD_app_nil]
theorem loc_push (d i : Nat) : loc (H ++ [[]]) d i = loc H d i := by unfold loc; rw [getD_app_nil]
theorem RO.push {A : Nat → Nat → Prop} {o : O} {v : Value} (hr : RO F H h w A o v) : RO F (H ++ [[]]) (h ++ [[]]) w A o v := RO.stay (fun _ _ _ => getB_push _ _) (fun _ _ _ => loc_push _ _) hr
theorem SR.push (S : SR F H h w) : SR F (H ++ [[]]) (h ++ [[]]) w := by
  refine ⟨by simp [S.len], fun d => by rw [getD_app_nil, getD_app_nil]; exact S.lens d, fun d i d' i' b h1 h2 => S.inj d i d' i' b (by rw [← loc_push]; exact h1) (by rw [← loc_push]; exact h2), fun d i b h1 => S.lt d i b (by rw [← loc_push]; exact h1), S.flt, fun d i => ?_⟩
  rw [getB_push]
  have hold := S.blk d i
  cases hb : getB h d i with
  | none => rw [hb] at hold; exact (loc_push d i).trans hold
  | vars cs =>
    rw [hb] at hold
    obtain ⟨b, us, t, h1, h2, h3, h4, h5⟩ := hold
    exact ⟨b, us, t, (loc_push d i).trans h1, h2, h3, h4, fun j o u ho hu => (h5 j o u ho hu).push⟩
  | arr sz n get =>
    rw [hb] at hold
    rcases hold with ⟨q1, q2⟩ | ⟨b, us, t, h1, h2⟩
    · exact .inl ⟨q1, (loc_push d i).trans q2⟩
    · exact .inr ⟨b, us, t, (loc_push d i).trans h1, h2⟩
  | mar sz n get =>
    rw [hb] at hold
    rcases hold with ⟨q1, q2⟩ | ⟨b, us, t, h1, h2⟩
    · exact .inl ⟨q1, (loc_push d i).trans q2⟩
    · exact .inr ⟨b, us, t, (loc_push d i).trans h1, h2⟩
  | far sz n get => trivial
  | map f => rw [hb] at hold; exact hold
theorem getB_take (h : Heap) (m d i : Nat) : getB (h.take m) d i = if d < m then getB h d i else .none := by
  unfold getB
  rw [getD_take]
  split <;> rfl
theorem loc_take (H : Hs) (m d i : Nat) : loc (H.take m) d i = if d < m then loc H d i else none := by
  unfold loc
  rw [getD_take]
  split <;> rfl

/-- A frame let go: what it held is finished. -/
theorem pop_RO {m : Nat} (S : SR F1 H1 h1 w') {A : Nat → Nat → Prop} (hA : ∀ d i, A d i → d < m) {o : O} {v : Value} (hr : RO F1 H1 h1 w' A o v) : RO (endF F1 H1 h1 m) (H1.take m) (h1.take m) w' A o v := by
  refine hr.goes (fun b o q => .inl q) (fun _ _ _ => rfl) (fun _ _ q => q) (fun d i q => ?_)
  have hd := hA d i q
  have hg : getB (h1.take m) d i = getB h1 d i := by rw [getB_take, if_pos hd]
  have hl : loc (H1.take m) d i = loc H1 d i := by rw [loc_take, if_pos hd]
  have hown : ∀ sz n a cap, Own H1 w' d i sz n a cap → Own (H1.take m) w' d i sz n a cap := by
    rintro sz n a cap (⟨q1, q2, q3⟩ | ⟨b, us, t, h1, h2⟩)
    · exact .inl ⟨q1, q2, hl.trans q3⟩
    · exact .inr ⟨b, us, t, hl.trans h1, h2⟩
  cases hb : getB h1 d i with
  | none => trivial
  | vars cs => exact ⟨by rw [hg, hb]; rfl, hl⟩
  | arr sz n get => exact ⟨n, get, hg.trans hb, Nat.le_refl _, fun _ _ => rfl, fun _ a cap => hown sz n a cap⟩
  | mar sz n get => exact .inl ⟨n, get, hg.trans hb, Nat.le_refl _, fun _ => ⟨hl, fun a cap => hown sz n a cap⟩⟩
  | far sz n get => exact hg.trans hb
  | map f => have := S.blk d i; rw [hb] at this; exact this
theorem pop_SR {m : Nat} (S : SR F1 H1 h1 w') : SR (endF F1 H1 h1 m) (H1.take m) (h1.take m) w' := by
  have hloc : ∀ {d i b : Nat}, loc (H1.take m) d i = some b → d < m ∧ loc H1 d i = some b := by
    intro d i b h
    rw [loc_take] at h
    split at h
    · exact ⟨‹_›, h⟩
    · cases h
  have nF : ∀ {d i b : Nat}, d < m → loc H1 d i = some b → ∀ o, endF F1 H1 h1 m b o → F1 b o := by
    intro d i b hd hl o q
    rcases q with q | ⟨d', i', k1, k2, k3⟩
    · exact q
    · have := (S.inj _ _ _ _ _ hl k3).1; omega
  refine ⟨by simp [S.len], fun d => ?_, ?_, ?_, ?_, fun d i => ?_⟩
  · rw [getD_take, getD_take]; split; exact S.lens d; rfl
  · intro d i d' i' b q1 q2
    exact S.inj _ _ _ _ _ (hloc q1).2 (hloc q2).2
  · intro d i b q1; exact S.lt _ _ _ (hloc q1).2
  · rintro b o (q | ⟨d, i, _, _, h3⟩)
    · exact S.flt b o q
    · exact S.lt d i b h3
  · rw [getB_take]
    split
    · rename_i hd
      have hl : loc (H1.take m) d i = loc H1 d i := by rw [loc_take, if_pos hd]
      have hold := S.blk d i
      cases hb : getB h1 d i with
      | none => rw [hb] at hold; exact hl.trans hold
      | vars cs =>
        rw [hb] at hold
        obtain ⟨b, us, t, h1, h2, h3, h4, h5⟩ := hold
        exact ⟨b, us, t, hl.trans h1, h2, h3, fun o q => h4 o (nF hd h1 o q), fun j o u ho hu => pop_RO S (fun d' i' q => Nat.lt_of_le_of_lt q hd) (h5 j o u ho hu)⟩
      | arr sz n get =>
        rw [hb] at hold
        rcases hold with ⟨q1, q2⟩ | ⟨b, us, t, h1, h2, h3, h4⟩
        · exact .inl ⟨q1, hl.trans q2⟩
        · exact .inr ⟨b, us, t, hl.trans h1, h2, fun o => ⟨fun q => (h3 o).1 (nF hd h1 o q), fun q => .inl ((h3 o).2 q)⟩, h4.mono (fun b o q => .inl q) (fun _ _ _ => rfl)⟩
      | mar sz n get =>
        rw [hb] at hold
        rcases hold with ⟨q1, q2⟩ | ⟨b, us, t, h1, h2, h3, h4⟩
        · exact .inl ⟨q1, hl.trans q2⟩
        · exact .inr ⟨b, us, t, hl.trans h1, h2, fun o q => h3 o (nF hd h1 o q), h4.mono (fun b o q => .inl q) (fun _ _ _ => rfl)⟩
      | far sz n get => trivial
      | map f => rw [hb] at hold; exact hold
    · rename_i hd
      show loc _ _ _ = none
      rw [loc_take, if_neg hd]
theorem pop_Stp (S : SR F H h w) (st : Stp F (H ++ [[]]) (h ++ [[]]) w F1 H1 h1 w') : Stp F H h w (endF F1 H1 h1 h.length) (H1.take h.length) (h1.take h.length) w' := by
  have hlen : h1.length = h.length + 1 := by rw [st.len]; simp
  refine ⟨pop_SR st.sr, ⟨st.ext.os, st.ext.tape, st.ext.output, st.ext.size, fun b o q => .inl (st.ext.sub b o q), st.ext.fix, fun b hb hu => ?_⟩, fun A o v hr => ?_, by simp [hlen], fun d => ?_⟩
  · have hu' : ¬ Used (H ++ [[]]) (h ++ [[]]) b := by
      rintro ⟨d, i, q1, q2⟩
      rw [loc_push] at q1
      rw [getB_push] at q2
      exact hu ⟨d, i, q1, q2⟩
    obtain ⟨k1, k2, k3⟩ := st.ext.old b hb hu'
    refine ⟨k1, fun o q => ?_, ?_⟩
    · rcases q with q | ⟨d, i, _, h2, h3⟩
      · exact k2 o q
      · exact absurd ⟨d, i, h3, by revert h2; cases getB h1 d i <;> simp [Live]⟩ k3
    · rintro ⟨d, i, q1, q2⟩
      rw [loc_take] at q1
      rw [getB_take] at q2
      split at q1
      · rename_i hd
        rw [if_pos hd] at q2
        exact k3 ⟨d, i, q1, q2⟩
      · cases q1
  · have h2 := st.pres _ _ _ hr.used.push
    exact (pop_RO st.sr (fun d i q => (getB_in q.2).1) h2).monoA fun d i q => q.1
  · rw [getD_take]
    split
    · have := st.lens d
      rw [getD_app_nil] at this
      exact this
    · rename_i hd
      rw [List.getD_eq_getElem?_getD, List.getElem?_eq_none (by omega)]
      simp
theorem isLow_ro {lo : Nat} {A : Nat → Nat → Prop} {o : O} {v : Value} (hr : RO F H h w A o v) (hl : isLow lo o = true) : RO F H h w (fun d i => d < lo) o v := by
  cases hr with
  | ref hA hk hl2 => exact .ref (by simpa [isLow] using hl) hk hl2
  | eref hA ha => exact .eref (by simpa [isLow] using hl) ha
  | vsl hA hk hl2 hn ho => exact .vsl (by simpa [isLow] using hl) hk hl2 hn ho
  | _ => simp [isLow] at hl

/-- Calls that share memory with their caller. -/
theorem soundRich_step {X : Table} {E : Env} (SP : SoundPure P E) (SRh : SoundRich P E) (SL : SoundLoop P E) (hX : ∀ f ir, X.irs f = some ir → TrF P f ir) : SoundRich P (step X E) := by
  intro d f args s o s' hk hd hlp
  have hk : stepRich X E d f args s = some (o, s') := hk
  unfold stepRich at hk
  cases e2 : X.irs f with
  | none => rw [e2] at hk; cases hk
  | some ir =>
    rw [e2] at hk
    simp only at hk
    split at hk <;> try (cases hk; done)
    rename_i hlen
    have tr := hX f ir e2
    obtain ⟨fn, c, q1, q2, q3, q4, q5, q6⟩ := tr.ex
    refine ⟨Ent.of q1 q3 (by rw [q2]; rfl), fun F H w us S hro => ?_⟩
    refine callsIn_of_wp q1 q2 trivial ?_
    split at hk
    · have hat : At P F H s.fr w d (initTs ir args) s { tmps := us.toArray ++ Array.replicate (fn.ntmps - us.toArray.size) undef, defers := [] } w := by
        refine ⟨F, H, Stp.refl S, ?_, hd, hlp, rfl⟩
        rw [q4]
        exact init_AR hro (by rw [hlen]; exact tr.lim2) tr.lim
      refine code_sim (ro := none) SP SRh SL q5 hat hk fun e ts' s1 a' w' hk' hat' => ?_
      unfold retInl at hk'
      split at hk' <;> try (cases hk'; done)
      rename_i hret
      obtain ⟨F1, H1, st, hA, hd1, hlp1, hdf⟩ := hat'
      cases e3 : ir.results.mapM (readWith ts' s1 fun r o => some o) with
      | none => rw [e3] at hk'; cases hk'
      | some l =>
        rw [e3] at hk'
        obtain ⟨us', r1, r2, r3⟩ := results_sim (Rel := RO F1 H1 s1.fr w' (AOk d)) (g := fun r o => some o) st.sr hA (fun r o y v hro hy => by cases hy; exact hro) q6 e3
        have hv : (o, s') = (tupO l, s1) := by
          match l, hk' with
          | [], hk' => cases hk'; rfl
          | [x], hk' => cases hk'; rfl
          | x :: y :: l, hk' => cases hk'; rfl
        cases hv
        exact bodyPost_of hret hdf (run_results r1) ⟨_, F1, H1, rfl, hlp1, st.len, st, ro_resO ⟨r2, r3⟩⟩
    · have hat : At P F (H ++ [[]]) (s.fr ++ [[]]) w s.fr.length (initTs ir args) { s with fr := s.fr ++ [[]] } { tmps := us.toArray ++ Array.replicate (fn.ntmps - us.toArray.size) undef, defers := [] } w := by
        refine ⟨F, H ++ [[]], Stp.refl S.push, ?_, by simp, hlp, rfl⟩
        rw [q4]
        exact init_AR ⟨hro.1, fun j c u hc hu => ((hro.2 j c u hc hu).push).monoA fun d' i' q => by have q : d' ≤ d := q; show d' ≤ _; omega⟩ (by rw [hlen]; exact tr.lim2) tr.lim
      refine code_sim (ro := none) SP SRh SL q5 hat hk fun e ts' s1 a' w' hk' hat' => ?_
      unfold retRich at hk'
      split at hk' <;> try (cases hk'; done)
      rename_i hret
      obtain ⟨F1, H1, st, hA, hd1, hlp1, hdf⟩ := hat'
      have st2 := pop_Stp S st
      cases e3 : ir.results.mapM (readWith ts' s1 fun r o => resO s1.fr (d + 1) s.fr.length r.pt o) with
      | none => rw [e3] at hk'; cases hk'
      | some l =>
        rw [e3] at hk'
        obtain ⟨us', r1, r2, r3⟩ := results_sim (Rel := RO (endF F1 H1 s1.fr s.fr.length) (H1.take s.fr.length) (s1.fr.take s.fr.length) w' (AOk d)) (g := fun r o => resO s1.fr (d + 1) s.fr.length r.pt o) st.sr hA (fun r o y v hro hy => by
          unfold resO at hy
          split at hy
          · rename_i hlow
            cases hy
            exact (pop_RO st.sr (fun d' i q => by have q : d' < d + 1 := q; omega) (isLow_ro hro hlow)).monoA fun d' i q => by have q : d' < d + 1 := q; show d' ≤ d; omega
          · obtain ⟨c, h1, rfl⟩ := Option.map_eq_some_iff.1 hy
            exact .c (toC_sim st.sr (fun b o q => .inl q) (fun d i b o h1 h2 h3 => .inr ⟨d, i, h1, h2, h3⟩) 9 hro h1)) q6 e3
        have hv : (o, s') = (tupO l, { s1 with fr := s1.fr.take s.fr.length }) := by
          match l, hk' with
          | [], hk' => cases hk'; rfl
          | [x], hk' => cases hk'; rfl
          | x :: y :: l, hk' => cases hk'; rfl
        cases hv
        exact bodyPost_of hret hdf (run_results r1) ⟨_, _, _, rfl, hlp1, st2.len, st2, ro_resO ⟨r2, r3⟩⟩
end

/-- What is taken over from elsewhere is sound. -/
def SoundExt (P : Program) (X : Table) : Prop := ∀ f p args v, X.ext f = some p → p args = some v → Ent P f ∧ ∀ (F : Fz) (w : World) (us : List Value), us.length = args.length → (∀ (j : Nat) (c : C) (u : Value), args[j]? = some c → us[j]? = some u → VR F w c u) →
  (∀ b o, F b o → b < w.heap.size) → CallsIn Fence.wide 0 P f us.toArray w fun e w' => ∃ u F', e = .returned u ∧ VR F' w' v u ∧ Ext0 F w F' w'
theorem sound {P : Program} {X : Table} (hX : ∀ f ir, X.irs f = some ir → TrF P f ir) (hE : SoundExt P X) : ∀ n, SoundPure P (run X n) ∧ SoundRich P (run X n) ∧ SoundLoop P (run X n) := by
  intro n
  induction n with
  | zero =>
    refine ⟨fun f args v hk => ?_, fun d f args s o s' hk => ?_, fun ro d n kill ko c ic ts s res F0 H0 h0 w0 a w tr hk => ?_⟩
    · cases hk
    · cases hk
    · cases hk
  | succ n ih =>
    obtain ⟨SP, SRh, SL⟩ := ih
    exact ⟨soundPure_step SP SRh SL hX hE, soundRich_step SP SRh SL hX, soundLoop_step SP SRh SL⟩
end Go.Ab
