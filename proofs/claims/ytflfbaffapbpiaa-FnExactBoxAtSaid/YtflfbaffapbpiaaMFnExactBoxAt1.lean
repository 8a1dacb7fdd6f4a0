/- Part 1 of what the law FnExactBoxAt stands on; the last part ends with the law's row. No condition of mine. -/
import Derived.Test.YtflfbaffapbpiaaMFnExactBoxAt0
import Derived.Lib.ConvBytes
import Derived.Laws.AppendOwn
import Derived.ChangeArms
import Derived.DataReads
import Derived.SizedLaws
import Derived.Deep.Slices
import Derived.Lib.SlBytesRow
import Derived.Test.YtflfbaffapbpiaaProg
import Derived.Below
import Derived.Deep.Draws
import Derived.Deep.AppendLies
import Derived.Maps.AppendAt
import Derived.OwnWalk
import Derived.Laws.BytesArg
import Derived.Laws.MakeOwn
import Derived.Laws.OwnMore
import Derived.Deep.OwnRows
import Derived.Tactics
import Derived.Laws.Slices
import Derived.WalkKit
import Derived.KernelRfl
import Derived.RowKit3
import Derived.Deep.LoopGhost
import Derived.Deep.QuietTactic
import Derived.BigQuiet
import Derived.WideLaws
import Derived.Deep.DeepCutAuto
import Derived.Deep.CutBlock
import Derived.Deep.RegionHeld3
import Derived.Laws.Rows
import Derived.Lib.AppendStr
import Derived.ArgAppend
import Derived.Laws.IdiomCopy
import Derived.OrdersHeld
import Derived.Laws.BitsLemmas
import Derived.RowKit
namespace Go.Proofs.YtflfbaffapbpiaaW.PrintWords
open Go.RowKit
namespace Kd
end Kd
end Go.Proofs.YtflfbaffapbpiaaW.PrintWords
namespace Go.Proofs.YtflfbaffapbpiaaW.PrintWords
open Go.RowKit
end Go.Proofs.YtflfbaffapbpiaaW.PrintWords
namespace Go.Proofs.YtflfbaffapbpiaaW.PrintLast
end Go.Proofs.YtflfbaffapbpiaaW.PrintLast
namespace Go.Proofs.YtflfbaffapbpiaaW.PrintWords
open Go.RowKit
namespace Kd
end Kd
end Go.Proofs.YtflfbaffapbpiaaW.PrintWords
namespace Go.Proofs.YtflfbaffapbpiaaW.PrintWords
def idxOf {α : Type} (p : α → Bool) (l : List α) : Int := match l.findIdx? p with | some i => (i : Int) | none => -1
theorem idxOf_hit {α : Type} (p : α → Bool) (l : List α) (d : α) (k : Nat) (hk : k < l.length) (hp : p (l.getD k d) = true) (hn : ∀ j, j < k → p (l.getD j d) = false) : idxOf p l = k := by
  have hg : ∀ j (h : j < l.length), l.getD j d = l[j] := fun j h => by simp [List.getD_eq_getElem?_getD, List.getElem?_eq_getElem h]
  have : l.findIdx? p = some k := by
    rw [List.findIdx?_eq_some_iff_getElem]
    refine ⟨hk, ?_, fun j hj => ?_⟩
    · rw [← hg k hk]; exact hp
    · have h1 := hn j hj
      rw [hg j (by omega)] at h1
      simp [h1]
  simp [idxOf, this]
theorem idxOf_miss {α : Type} (p : α → Bool) (l : List α) (d : α) (hn : ∀ j, j < l.length → p (l.getD j d) = false) : idxOf p l = -1 := by
  have : l.findIdx? p = none := by
    rw [List.findIdx?_eq_none_iff]
    intro x hx
    obtain ⟨j, hj, rfl⟩ := List.mem_iff_getElem.mp hx
    have h1 := hn j hj
    simpa [List.getD_eq_getElem?_getD, List.getElem?_eq_getElem hj] using h1
  simp [idxOf, this]
theorem idxOf_any {α : Type} (p : α → Bool) (l : List α) : decide (0 ≤ idxOf p l) = l.any p := by
  unfold idxOf
  cases h : l.findIdx? p with
  | none =>
    rw [List.findIdx?_eq_none_iff] at h
    have : l.any p = false := by simpa [List.any_eq_false] using h
    rw [this]; rfl
  | some i =>
    have hi := h
    rw [List.findIdx?_eq_some_iff_getElem] at hi
    obtain ⟨hl, hp, _⟩ := hi
    have : l.any p = true := List.any_eq_true.mpr ⟨l[i], List.getElem_mem hl, hp⟩
    rw [this]; exact decide_eq_true (Int.natCast_nonneg i)
end Go.Proofs.YtflfbaffapbpiaaW.PrintWords
namespace Go.Proofs.YtflfbaffapbpiaaW.PrintWords
open Go.RowKit Go.ChangeShapes Go.WideShapes
section
variable {H : Type} {enc : TypeId × Value → H} {P : Program} {W : World}
def Tells (enc : TypeId × Value → H) (P : Program) (W : World) {α : Type} (t : TypeId) (d : Kd α) (S : α → Prop) : Prop :=
  ∀ (fuel : Nat) (cs : List Value) (x : DataW H × List MemPlace), DataW.trod enc P W 0 (fun _ => true) true fuel t cs = some x →
    (∀ n ∈ x.1.weights P t, n ≤ reachBytes) → ∃ y : α, d.K W y cs ∧ S y
theorem Tells.int {t : TypeId} {k : IntKind} (h : P.underlying t = some (.int k)) : Tells enc P W t (Kd.int k) (fun n => (Lit.int k n).wf = true) := by
  intro fuel cs x hx _
  obtain ⟨n, rfl, _, hw⟩ := DataW.trod_int h hx
  exact ⟨n, rfl, hw⟩
theorem Tells.bool {t : TypeId} (h : P.underlying t = some .bool) : Tells enc P W t Kd.bool (fun _ => True) := by
  intro fuel cs x hx _
  obtain ⟨b, rfl, _⟩ := DataW.trod_bool h hx
  exact ⟨b, rfl, trivial⟩
theorem Tells.string {t : TypeId} (h : P.underlying t = some .string) : Tells enc P W t Kd.string (fun s => s.size ≤ 140737488351232) := by
  intro fuel cs x hx hw
  obtain ⟨s, rfl, rfl, _⟩ := DataW.trod_string h hx
  refine ⟨s, rfl, ?_⟩
  have h1 := hw s.data.toList.length (by simp [DataW.weights])
  have h2 : reachBytes = 140737488351232 := by decide
  rw [h2] at h1
  simpa using h1
theorem weightsAll_mem {e : TypeId} : ∀ {l : List (DataW H)} {i : Nat} {z : DataW H}, l[i]? = some z → ∀ n ∈ z.weights P e, n ∈ DataW.weightsAll P e l
  | a :: l, 0, z, hz, n, hn => by
    simp only [List.getElem?_cons_zero, Option.some.injEq] at hz
    subst hz
    simp only [DataW.weightsAll, List.mem_append]
    exact Or.inl hn
  | a :: l, i + 1, z, hz, n, hn => by
    simp only [List.getElem?_cons_succ] at hz
    simp only [DataW.weightsAll, List.mem_append]
    exact Or.inr (weightsAll_mem hz n hn)
  | [], _, _, hz, _, _ => by simp at hz
theorem list_of {α : Type} {Q : Nat → α → Prop} (n : Nat) (h : ∀ i, i < n → ∃ y, Q i y) : ∃ l : List α, l.length = n ∧ ∀ i y, l[i]? = some y → Q i y := by
  induction n with
  | zero => exact ⟨[], rfl, fun i y hy => by simp at hy⟩
  | succ n ih =>
    obtain ⟨l, hl, hq⟩ := ih (fun i hi => h i (by omega))
    obtain ⟨y, hy⟩ := h n (by omega)
    refine ⟨l ++ [y], by simp [hl], fun i z hz => ?_⟩
    rcases Nat.lt_or_ge i l.length with hi | hi
    · rw [List.getElem?_append_left hi] at hz
      exact hq i z hz
    · have hin : i = n := by
        have := (List.getElem?_eq_some_iff.1 hz).1
        simp [hl] at this
        omega
      subst hin
      rw [← hl] at hz
      have : y = z := by simpa using hz
      subst this
      exact hy
theorem Tells.slice {α : Type} {t e : TypeId} {d : Kd α} {S : α → Prop} (h : P.underlying t = some (.slice e)) (hsz : P.cellsOf e = d.sz) {b : Nat} (hbt : P.bytesOf e = b) (he : Tells enc P W e d S) :
    Tells enc P W t (Kd.slice e d) (fun l => l.length ≤ maxLen ∧ l.length * b ≤ 140737488351232 ∧ ∀ y ∈ l, S y) := by
  intro fuel cs x hx hw
  rcases DataW.trod_slice h hx with ⟨rfl, rfl⟩ | ⟨a, len, cap, elems, rest, n, rfl, rfl, rfl, hb, hl, hm, hlen, hel, _, _⟩
  · exact ⟨[], ⟨none, 0, rfl, Nat.le_refl _, rfl, by simp, fun h => absurd h (by simp)⟩, by simp, by simp, by simp⟩
  · have hall : ∀ i, i < len → ∃ y : α, (∃ c, W.cells? 0 (a.add (i * P.cellsOf e)) (P.cellsOf e) = some c ∧ d.K W y c) ∧ S y := by
      intro i hi
      have h1 := hel i hi
      obtain ⟨z, hz⟩ : ∃ z, elems[i]? = some z := ⟨elems[i]'(by omega), List.getElem?_eq_getElem (by omega)⟩
      rw [hz] at h1
      obtain ⟨c, hc, ht⟩ := Option.bind_eq_some_iff.1 h1
      obtain ⟨y, hy, hs⟩ := he n c z ht (fun m hm => hw m (by
        simp only [DataW.weights, h, List.mem_cons, List.mem_append]
        exact Or.inr (Or.inl (weightsAll_mem (i := i) (z := z.1) (by simp [hz]) m hm))))
      exact ⟨y, ⟨c, hc, hy⟩, hs⟩
    obtain ⟨l, hll, hq⟩ := list_of len hall
    have hmax : len ≤ 9223372036854775807 := Nat.le_trans hl (Nat.le_trans hm (by decide))
    refine ⟨l, ⟨some a, cap, by rw [hll], by rw [hll]; exact hl, rfl, by rw [hll]; exact hmax, fun _ => ⟨a, rfl, fun j p hj => ?_⟩⟩, by rw [hll]; exact Nat.le_trans hl hm, ?_, fun y hy => ?_⟩
    · obtain ⟨⟨c, hc, hk⟩, _⟩ := hq j p hj
      refine ⟨c, d.K_len hk, hk, fun i u hu => ?_⟩
      obtain ⟨_, hcl, hat⟩ := World.cells?_some hc
      have hi : i < P.cellsOf e := by rw [← hcl]; exact (List.getElem?_eq_some_iff.1 hu).1
      rw [← hsz, ← Go.Deep.add_add, hat i hi, hu]
    · have h1 := hw ((elems.map (·.1)).length + (rest.map (·.1)).length |> (· * P.bytesOf e)) (by simp [DataW.weights, h])
      have h2 : reachBytes = 140737488351232 := by decide
      rw [h2, hbt] at h1
      simp only [List.length_map] at h1
      rw [hll, ← hlen]
      exact Nat.le_trans (Nat.mul_le_mul_right _ (Nat.le_add_right _ _)) h1
    · obtain ⟨i, hi⟩ := List.getElem?_of_mem hy
      exact (hq i y hi).2
def TellsF (enc : TypeId × Value → H) (P : Program) (W : World) {α : Type} (fs : List Field) (off : Nat) (d : Kd α) (S : α → Prop) : Prop :=
  ∀ (n : Nat) (cs : List Value) (xs : List (DataW H × List MemPlace)), xs.length = fs.length →
    (∀ (i : Nat) (f : Field), fs[i]? = some f → DataW.trod enc P W 0 (fun _ => true) true n f.type ((cs.drop f.offset).take (P.cellsOf f.type)) = xs[i]?) →
    (∀ m ∈ DataW.weightsEach P (fs.map (·.type)) (xs.map (·.1)), m ≤ reachBytes) → ∃ y : α, d.K W y ((cs.drop off).take d.sz) ∧ S y
theorem TellsF.one {α : Type} {f : Field} {d : Kd α} {S : α → Prop} (hsz : P.cellsOf f.type = d.sz) (h : Tells enc P W f.type d S) : TellsF enc P W [f] f.offset d S := by
  intro n cs xs hl hx hw
  match xs, hl with
  | [x], _ =>
    have h1 := hx 0 f rfl
    rw [hsz] at h1
    exact h n _ x h1 (fun m hm => hw m (by simp [DataW.weightsEach, hm]))
theorem TellsF.cons {α β : Type} {f : Field} {fs : List Field} {off : Nat} {d : Kd α} {S : α → Prop} {d' : Kd β} {S' : β → Prop} (hsz : P.cellsOf f.type = d.sz) (h : Tells enc P W f.type d S) (hoff : off = f.offset + d.sz) (h' : TellsF enc P W fs off d' S') :
    TellsF enc P W (f :: fs) f.offset (Kd.pair d d') (fun y => S y.1 ∧ S' y.2) := by
  intro n cs xs hl hx hw
  match xs, hl with
  | x :: xs, hl =>
    have h1 := hx 0 f rfl
    rw [hsz] at h1
    obtain ⟨y, hy, hs⟩ := h n _ x h1 (fun m hm => hw m (by simp [DataW.weightsEach, hm]))
    obtain ⟨z, hz, hs'⟩ := h' n cs xs (by simpa using hl) (fun i g hg => hx (i + 1) g (by simpa using hg)) (fun m hm => hw m (by simp only [List.map_cons, DataW.weightsEach, List.mem_append]; exact Or.inr hm))
    refine ⟨(y, z), ⟨_, _, ?_, hy, hz⟩, hs, hs'⟩
    show (cs.drop f.offset).take (d.sz + d'.sz) = _
    rw [List.take_add, List.drop_drop, hoff]
theorem Tells.struct {α β : Type} {t : TypeId} {fs : Array Field} {d : Kd α} {S : α → Prop} {f : β → α} (g : α → β) (hfg : ∀ y, f (g y) = y) (h : P.underlying t = some (.struct fs)) (hsz : P.cellsOf t = d.sz) (hf : TellsF enc P W fs.toList 0 d S) :
    Tells enc P W t (Kd.iso d f) (fun x => S (f x)) := by
  intro fuel cs x hx hw
  obtain ⟨xs, n, _, rfl, hlen, hl, hg⟩ := DataW.trod_struct h hx
  obtain ⟨y, hy, hs⟩ := hf n cs xs (by simpa using hl) (fun i f' hf' => hg i f' (by simpa using hf')) (fun m hm => hw m (by simpa [DataW.weights, h] using hm))
  refine ⟨g y, ?_, by show S (f (g y)); rw [hfg]; exact hs⟩
  show d.K W (f (g y)) cs
  rw [hfg]
  have : (cs.drop 0).take d.sz = cs := by rw [List.drop_zero, ← hsz, ← hlen, List.take_length]
  rwa [this] at hy
theorem Tells.arg {α : Type} {t : TypeId} {d : Kd α} {S : α → Prop} (h : Tells enc P W t d S) {v : Value} {z : DataW H} {p : List MemPlace} (ht : DataW.Trod enc P W 0 (fun _ => true) true t v z p) {ts : List TypeId} {ds : List (DataW H)} {j : Nat}
    (hsz : (DataW.weightsEach P ts ds).all (· ≤ reachBytes) = true) (htj : ts[j]? = some t) (hdj : ds[j]? = some z) : ∃ y : α, d.K W y v.cells.toList ∧ S y := by
  obtain ⟨fuel, hf⟩ := ht
  exact h fuel _ _ hf (fun n hn => by
    have := List.all_eq_true.1 hsz n (DataW.weights_mem_each htj hdj n hn)
    simpa using this)
end
end Go.Proofs.YtflfbaffapbpiaaW.PrintWords
namespace Go.Proofs.YtflfbaffapbpiaaW.PrintWords
open Go.RowKit
structure RowB (w : World) (g : Nat) (l : List UInt8) : Prop where
  cell : ∀ j (h : j < l.length), w.cell? ⟨g, j, none⟩ = some (.int .u8 ((l[j]'h).toNat : Int))
  free : ∀ j, j < l.length → w.frozen? ⟨g, j, none⟩ = false
theorem setCell_at (w : World) (g j : Nat) (v : Value) {u : Value} (h : w.cell? ⟨g, j, none⟩ = some u) (i : Nat) : (w.setCell ⟨g, j, none⟩ v).cell? ⟨g, i, none⟩ = if i = j then some v else w.cell? ⟨g, i, none⟩ := by
  have hg := World.block_lt_of_cell? _ _ h
  simp only at hg
  unfold World.cell? at h ⊢
  simp only [World.setCell, Array.getElem?_modify] at h ⊢
  cases hb : w.heap[g]? with
  | none => rw [hb] at h; simp at h
  | some o =>
    rw [hb] at h
    cases o with
    | cells c e f =>
      simp only [Option.isSome_none, Bool.false_eq_true, if_false] at h ⊢
      simp only [if_true, Option.map_some]
      rw [Array.getElem?_setIfInBounds]
      have hj : j < c.size := (Array.getElem?_eq_some_iff.1 h).1
      by_cases e1 : i = j
      · subst e1; simp [hj]
      · have e2 : ¬ j = i := fun e => e1 e.symm
        simp [e1, e2]
    | _ => simp at h
theorem setCell_frozen (w : World) (g j : Nat) (v : Value) (i : Nat) : (w.setCell ⟨g, j, none⟩ v).frozen? ⟨g, i, none⟩ = w.frozen? ⟨g, i, none⟩ := by
  unfold World.frozen?
  simp only [World.setCell, Array.getElem?_modify]
  cases hb : w.heap[g]? with
  | none => simp
  | some o => cases o <;> simp
theorem RowB.set {w : World} {g : Nat} {l : List UInt8} (h : RowB w g l) (j : Nat) (hj : j < l.length) (b : UInt8) (v : Int) (hv : v = (b.toNat : Int)) : RowB (w.setCell ⟨g, j, none⟩ (.int .u8 v)) g (l.set j b) := by
  refine ⟨fun i hi => ?_, fun i hi => ?_⟩
  · rw [setCell_at w g j _ (h.cell j hj)]
    rw [List.length_set] at hi
    by_cases e : i = j
    · subst e; simp [hv]
    · rw [if_neg e, h.cell i hi, List.getElem_set_ne (fun x => e x.symm)]
  · rw [setCell_frozen]
    exact h.free i (by rwa [List.length_set] at hi)
theorem RowB.bytes {w : World} {g : Nat} {l : List UInt8} (h : RowB w g l) : Lib.Bytes w g 0 ⟨l.toArray⟩ := fun i hi => by
  have hi' : i < l.length := Nat.lt_of_lt_of_eq hi (show l.toArray.size = l.length from List.size_toArray)
  have := h.cell i hi'
  rw [Nat.zero_add, this]
  rfl
theorem RowB.conv (w : World) (e : TypeId) (s : ByteArray) : RowB (Lib.bytesWorld w e s) w.heap.size s.data.toList := by
  have hl : s.data.toList.length = s.size := by simp
  refine ⟨fun j hj => ?_, fun j hj => ?_⟩
  · rw [Lib.bytesWorld_cell w e s j (by omega), List.getD_eq_getElem?_getD, List.getElem?_eq_getElem hj]
    rfl
  · have hs : s.size ≤ (Lib.bytesCells w e s).size := by simp [Lib.bytesCells]
    simp only [World.frozen?, Lib.bytesWorld_at_new]
    simp
    omega
namespace Kd
end Kd
end Go.Proofs.YtflfbaffapbpiaaW.PrintWords
namespace Go.Proofs.YtflfbaffapbpiaaW.PrintWords
end Go.Proofs.YtflfbaffapbpiaaW.PrintWords
namespace Go.Proofs.YtflfbaffapbpiaaW.PrintWords
open Go.RowKit Go.Proofs.YtflfbaffapbpiaaW.PrintLast
theorem qr_ {P Q : Prop} (H : Aside0 P) (h : P → Q := by intro h; (with_reducible repeat (first | apply Kd.R_alloc | apply Kd.R_drewN | apply Kd.R_drew)); exact h) : Q := h H.out
theorem qk_ {P Q : Prop} (H : Aside0 P) (h : P → Q := by intro h; (with_reducible repeat (first | refine blk_drewN ?_ _ | refine blk_drew ?_ | refine blk_alloc ?_ _)); exact h) : Q := h H.out
theorem qp_ {P Q : Prop} (H : Aside0 P) (h : P → Q := by intro h; repeat (first | (with_reducible first | refine blk_drewN ?_ _ | refine blk_drew ?_ | refine blk_alloc ?_ _) | (with_reducible exact h) | (with_reducible refine blk_far ?_ (Aside0.out (by with_reducible assumption)) _) | (with_reducible apply blk_put) | refine blk_far ?_ (Aside0.out (by with_reducible assumption)) _ | apply blk_put | exact h | rfl)) : Q := h H.out
theorem qcc_ {P Q : Prop} (H : P) (h : P → Q := by intro h; repeat (first | exact h | (with_reducible refine Kd.C_alloc ?_ _) | (with_reducible refine Kd.C_drewN ?_ _) | (with_reducible refine Kd.C_drew ?_))) : Q := h H
abbrev qT : Bool := true
abbrev qF : Bool := false
theorem qh_ {E H R : Prop} (e : E) (h0 : H) (h : E → H → R := by intro hy_ H; first | (rw [hy_]; with_reducible exact H) | (have H2_ := (Option.bind_some _ _).symm.trans H; rw [hy_]; with_reducible exact H2_) | (have H2_ := (Option.bind_some _ _).symm.trans H; with_reducible exact H2_) | with_reducible exact H | (rw [hy_]; exact H) | exact H) : R := h e h0
theorem qj_ {E H R : Prop} (e : E) (h0 : H) (h : E → H → R := by intro hy_ H; first | (rw [hy_] at H; exact H) | (simp only [hy_] at H ⊢; exact H)) : R := h e h0
theorem qd_ {p : Prop} [Decidable p] (h : decide p = true := by first | (with_reducible assumption) | assumption) : p := of_decide_eq_true h
theorem qK {P : Prop} (h : P := by kernel_rfl) : P := h
abbrev BA_ := ByteArray
theorem qee_ {P : Prop} (h : P := by first | rfl | (simp [errW_none, errW_some] <;> rfl) | (simp [*, errW_none, errW_some] <;> rfl)) : P := h
theorem qff_ {P : Prop} (h : P := by first | rfl | (simp; done) | (simp [*]; done)) : P := h
theorem qll_ {P : Prop} (h : P := by (try simp only [List.map_toArray, List.map_cons, List.map_nil]); first | done | rfl | (simp only [List.length_drop, List.length_take]; rfl)) : P := h
theorem qS_ {α : Type} : (∀ (l : List α) (i : Nat) (a : α), l.toArray.setIfInBounds i a = (l.set i a).toArray) ∧ (∀ (x y : α) (l : List α), (x :: l).set 0 y = y :: l) ∧ (∀ (x y : α) (l : List α) (i : Nat), (x :: l).set (i + 1) y = x :: l.set i y) := ⟨fun _ _ _ => List.setIfInBounds_toArray .., fun _ _ _ => List.set_cons_zero .., fun _ _ _ _ => List.set_cons_succ ..⟩
theorem qW_ : (∀ n : Int, IntKind.i64.wrap n = wrap64 n) ∧ (∀ n : Int, IntKind.i32.wrap n = wrap32 n) := ⟨i64_w, i32_w⟩
theorem qBHB {P : Prop} (h : P := by repeat (first | (with_reducible first | exact HB.out | apply below_alloc | apply pw_below_drewN | apply below_drew1 | refine below_set ?_ (IsS142.ge HI0.out) | refine below_set ?_ (IsS128.ge HI0.out) | refine below_set ?_ (IsS128.ge HI104.out) | refine below_set ?_ (IsS27.ge HI0.out)) | (with_reducible apply below_set) | exact HB.out | exact Aside0.out (by with_reducible assumption))) : P := h
theorem qf1_ {α : Type} {d : Kd α} {e base : Nat} {ok : Nat → Prop} {v : Value} {xs : List α} {w : World} {g t : Nat} {cells : Array Value} {j0 : Nat} {u0 : Value} (H : Aside0 (d.R e w base ok v xs)) (B : Aside0 (w.heap[g]? = some (.cells cells t (0, 0)))) (ht : ∀ q, q ∈ e :: d.E → q ≠ t := by decide) : d.R e (w.setCell ⟨g, j0, none⟩ u0) base (fun k => ok k ∧ k ≠ g) v xs := (Kd.R_far (p := ⟨g, j0, none⟩) (Kd.R_types H.out B.out ht) (fun _ hk => hk.2) u0)
theorem qc3_ {w : World} {g : Nat} {t : TypeId} {a0 a1 a2 : Value} (H : Aside0 (w.heap[g]? = some (.cells #[a0, a1, a2] t (0, 0)))) : w.cell? ⟨g, 0, none⟩ = some a0 ∧ w.cell? ⟨g, 1, none⟩ = some a1 ∧ w.cell? ⟨g, 2, none⟩ = some a2 ∧ ∀ i, w.frozen? ⟨g, i, none⟩ = false := ⟨(blk_cell H.out 0).trans rfl, (blk_cell H.out 1).trans rfl, (blk_cell H.out 2).trans rfl, blk_frozen H.out⟩
theorem qc5_ {w : World} {g : Nat} {t : TypeId} {a0 a1 a2 a3 a4 : Value} (H : Aside0 (w.heap[g]? = some (.cells #[a0, a1, a2, a3, a4] t (0, 0)))) : w.cell? ⟨g, 0, none⟩ = some a0 ∧ w.cell? ⟨g, 1, none⟩ = some a1 ∧ w.cell? ⟨g, 2, none⟩ = some a2 ∧ w.cell? ⟨g, 3, none⟩ = some a3 ∧ w.cell? ⟨g, 4, none⟩ = some a4 ∧ ∀ i, w.frozen? ⟨g, i, none⟩ = false := ⟨(blk_cell H.out 0).trans rfl, (blk_cell H.out 1).trans rfl, (blk_cell H.out 2).trans rfl, (blk_cell H.out 3).trans rfl, (blk_cell H.out 4).trans rfl, blk_frozen H.out⟩
theorem qf5_ {α : Type} {d : Kd α} {e base : Nat} {ok : Nat → Prop} {v : Value} {xs : List α} {w : World} {g t : Nat} {cells : Array Value} {j0 j1 j2 j3 j4 : Nat} {u0 u1 u2 u3 u4 : Value} (H : Aside0 (d.R e w base ok v xs)) (B : Aside0 (w.heap[g]? = some (.cells cells t (0, 0)))) (ht : ∀ q, q ∈ e :: d.E → q ≠ t := by decide) : d.R e (((((w.setCell ⟨g, j0, none⟩ u0).setCell ⟨g, j1, none⟩ u1).setCell ⟨g, j2, none⟩ u2).setCell ⟨g, j3, none⟩ u3).setCell ⟨g, j4, none⟩ u4) base (fun k => ok k ∧ k ≠ g) v xs := (Kd.R_far (p := ⟨g, j4, none⟩) (Kd.R_far (p := ⟨g, j3, none⟩) (Kd.R_far (p := ⟨g, j2, none⟩) (Kd.R_far (p := ⟨g, j1, none⟩) (Kd.R_far (p := ⟨g, j0, none⟩) (Kd.R_types H.out B.out ht) (fun _ hk => hk.2) u0) (fun _ hk => hk.2) u1) (fun _ hk => hk.2) u2) (fun _ hk => hk.2) u3) (fun _ hk => hk.2) u4)
end Go.Proofs.YtflfbaffapbpiaaW.PrintWords
namespace Go.Proofs.Ytflfbaffapbpiaa.P
open Go.RowKit Go.Proofs.YtflfbaffapbpiaaW.PrintWords Go.Proofs.YtflfbaffapbpiaaW.PrintLast Go.Proofs.YtflfbaffapbpiaaW.PrintMore
attribute [local go_sem] max2_int min2_int max_two min_two max_three min_three max_four min_four   -- for this text's walks alone
set_option linter.unusedVariables false
set_option linter.unusedSimpArgs false
def errW : Option Int → Value
  | none => .nilIface
  | some c => .iface 0 (.int .i64 c)
theorem errW_none : errW none = .nilIface := rfl
theorem errW_some (c : Int) : errW (some c) = .iface 0 (.int .i64 c) := rfl
theorem info9 : (Try.prog.info? 9).map (fun i => (i.zero, i.size, i.bytes)) = some (some (.string ⟨#[]⟩), 1, 16) := by kernel_rfl
theorem info27 : (Try.prog.info? 27).map (fun i => (i.zero, i.size, i.bytes)) = some (some (.agg #[(.string ⟨#[]⟩), (.int .i64 0), (.int .i64 0), (.slice none 0 0), (.slice none 0 0)]), 5, 80) := by kernel_rfl
theorem info68 : (Try.prog.info? 68).map (fun i => (i.zero, i.size, i.bytes)) = some (some (.agg #[(.int .i64 0), (.int .i64 0), (.string ⟨#[]⟩)]), 3, 32) := by kernel_rfl
structure S136 where
  f0 : Int
  f1 : Int
  f2 : ByteArray
def z136 : S136 := ⟨(0 : Int), (0 : Int), (⟨#[]⟩ : ByteArray)⟩
def k136 : Kd S136 := Kd.iso (Kd.pair (Kd.int .i64) (Kd.pair (Kd.int .i64) Kd.string)) (fun x : S136 => (x.f0, x.f1, x.f2))
theorem k136_open {w : World} {x : S136} {cs : List Value} (h : k136.K w x cs) : cs = [.int .i64 x.f0, .int .i64 x.f1, .string x.f2] := by
  obtain ⟨_, _, rfl, rfl, ⟨_, _, rfl, rfl, rfl⟩⟩ := h
  exact rfl
def rd_T136 (xs : List S136) (i : Int) : S136 := xs.getD i.toNat z136
theorem at_T136 {w : World} {A : Option Addr} {n : Nat} {xs : List S136} (h : Kd.C k136 w A n xs) (i : Int) (h0 : 0 ≤ i) (h1 : i < n) : ∃ ad , A = some ad ∧ w.cell? (ad.add (i.toNat * 3)) = some (.int .i64 (rd_T136 xs i).f0) ∧ w.cell? ⟨(ad.add (i.toNat * 3)).block, (ad.add (i.toNat * 3)).off + 1, none⟩ = some (.int .i64 (rd_T136 xs i).f1) ∧ w.cell? ⟨(ad.add (i.toNat * 3)).block, (ad.add (i.toNat * 3)).off + 2, none⟩ = some (.string (rd_T136 xs i).f2) := by
  obtain ⟨ad, c, e, _, hK, hc0⟩ := Kd.C_get h z136 i h0 h1
  have hc : ∀ j u, c[j]? = some u → w.cell? (ad.add (i.toNat * 3 + j)) = some u := hc0
  obtain rfl := k136_open hK
  exact ⟨ad, e, hc 0 _ rfl, by rw [← add_field _ _ 1 (by omega)]; exact hc 1 _ rfl, by rw [← add_field _ _ 2 (by omega)]; exact hc 2 _ rfl⟩
structure S75 where
  f0 : ByteArray
  f1 : Int
  f2 : Int
  f3 : (List S136)
  f4 : (List ByteArray)
def z75 : S75 := ⟨(⟨#[]⟩ : ByteArray), (0 : Int), (0 : Int), ([] : List S136), ([] : List ByteArray)⟩
def k75 : Kd S75 := Kd.iso (Kd.pair Kd.string (Kd.pair (Kd.int .i64) (Kd.pair (Kd.int .i64) (Kd.pair (Kd.slice 136 k136) (Kd.slice 9 Kd.string))))) (fun x : S75 => (x.f0, x.f1, x.f2, x.f3, x.f4))
theorem k75_open {w : World} {x : S75} {cs : List Value} (h : k75.K w x cs) : ∃ A3 c3 A4 c4, cs = [.string x.f0, .int .i64 x.f1, .int .i64 x.f2, .slice A3 x.f3.length c3, .slice A4 x.f4.length c4] ∧ x.f3.length ≤ c3 ∧ k136.C w A3 x.f3.length x.f3 ∧ x.f4.length ≤ c4 ∧ Kd.string.C w A4 x.f4.length x.f4 := by
  obtain ⟨_, _, rfl, rfl, ⟨_, _, rfl, rfl, ⟨_, _, rfl, rfl, ⟨_, _, rfl, ⟨A3, c3, rfl, l3, g3⟩, ⟨A4, c4, rfl, l4, g4⟩⟩⟩⟩⟩ := h
  exact ⟨A3, c3, A4, c4, rfl, l3, g3, l4, g4⟩
def rd_T75 (xs : List S75) (i : Int) : S75 := xs.getD i.toNat z75
theorem at_T75 {w : World} {A : Option Addr} {n : Nat} {xs : List S75} (h : Kd.C k75 w A n xs) (i : Int) (h0 : 0 ≤ i) (h1 : i < n) : ∃ ad A3 c3 A4 c4, A = some ad ∧ w.cell? (ad.add (i.toNat * 5)) = some (.string (rd_T75 xs i).f0) ∧ w.cell? ⟨(ad.add (i.toNat * 5)).block, (ad.add (i.toNat * 5)).off + 1, none⟩ = some (.int .i64 (rd_T75 xs i).f1) ∧ w.cell? ⟨(ad.add (i.toNat * 5)).block, (ad.add (i.toNat * 5)).off + 2, none⟩ = some (.int .i64 (rd_T75 xs i).f2) ∧ w.cell? ⟨(ad.add (i.toNat * 5)).block, (ad.add (i.toNat * 5)).off + 3, none⟩ = some (.slice A3 (rd_T75 xs i).f3.length c3) ∧ w.cell? ⟨(ad.add (i.toNat * 5)).block, (ad.add (i.toNat * 5)).off + 4, none⟩ = some (.slice A4 (rd_T75 xs i).f4.length c4) ∧ (rd_T75 xs i).f3.length ≤ c3 ∧ k136.C w A3 (rd_T75 xs i).f3.length (rd_T75 xs i).f3 ∧ (rd_T75 xs i).f4.length ≤ c4 ∧ Kd.string.C w A4 (rd_T75 xs i).f4.length (rd_T75 xs i).f4 := by
  obtain ⟨ad, c, e, _, hK, hc0⟩ := Kd.C_get h z75 i h0 h1
  have hc : ∀ j u, c[j]? = some u → w.cell? (ad.add (i.toNat * 5 + j)) = some u := hc0
  obtain ⟨A3, c3, A4, c4, rfl, l3, g3, l4, g4⟩ := k75_open hK
  exact ⟨ad, A3, c3, A4, c4, e, hc 0 _ rfl, by rw [← add_field _ _ 1 (by omega)]; exact hc 1 _ rfl, by rw [← add_field _ _ 2 (by omega)]; exact hc 2 _ rfl, by rw [← add_field _ _ 3 (by omega)]; exact hc 3 _ rfl, by rw [← add_field _ _ 4 (by omega)]; exact hc 4 _ rfl, l3, g3, l4, g4⟩
structure S68 where
  f0 : Int
  f1 : Int
  f2 : ByteArray
def z68 : S68 := ⟨(0 : Int), (0 : Int), (⟨#[]⟩ : ByteArray)⟩
def k68 : Kd S68 := Kd.iso (Kd.pair (Kd.int .i64) (Kd.pair (Kd.int .i64) Kd.string)) (fun x : S68 => (x.f0, x.f1, x.f2))
theorem k68_open {w : World} {x : S68} {cs : List Value} (h : k68.K w x cs) : cs = [.int .i64 x.f0, .int .i64 x.f1, .string x.f2] := by
  obtain ⟨_, _, rfl, rfl, ⟨_, _, rfl, rfl, rfl⟩⟩ := h
  exact rfl
theorem k68_openM {w : World} {base : Nat} {ok : Nat → Prop} {x : S68} {cs : List Value} (h : k68.M w base ok x cs) : cs = [.int .i64 x.f0, .int .i64 x.f1, .string x.f2] := by
  obtain ⟨_, _, rfl, rfl, ⟨_, _, rfl, rfl, rfl⟩⟩ := h
  exact rfl
theorem k68_mkM (w : World) (base : Nat) (ok : Nat → Prop) (x : S68)  : k68.M w base ok x [.int .i64 x.f0, .int .i64 x.f1, .string x.f2] := ⟨[.int .i64 x.f0], [.int .i64 x.f1, .string x.f2], rfl, rfl, ⟨[.int .i64 x.f1], [.string x.f2], rfl, rfl, rfl⟩⟩
def rd_T68 (xs : List S68) (i : Int) : S68 := xs.getD i.toNat z68
theorem at_T68 {w : World} {A : Option Addr} {n : Nat} {xs : List S68} (h : Kd.C k68 w A n xs) (i : Int) (h0 : 0 ≤ i) (h1 : i < n) : ∃ ad , A = some ad ∧ w.cell? (ad.add (i.toNat * 3)) = some (.int .i64 (rd_T68 xs i).f0) ∧ w.cell? ⟨(ad.add (i.toNat * 3)).block, (ad.add (i.toNat * 3)).off + 1, none⟩ = some (.int .i64 (rd_T68 xs i).f1) ∧ w.cell? ⟨(ad.add (i.toNat * 3)).block, (ad.add (i.toNat * 3)).off + 2, none⟩ = some (.string (rd_T68 xs i).f2) := by
  obtain ⟨ad, c, e, _, hK, hc0⟩ := Kd.C_get h z68 i h0 h1
  have hc : ∀ j u, c[j]? = some u → w.cell? (ad.add (i.toNat * 3 + j)) = some u := hc0
  obtain rfl := k68_open hK
  exact ⟨ad, e, hc 0 _ rfl, by rw [← add_field _ _ 1 (by omega)]; exact hc 1 _ rfl, by rw [← add_field _ _ 2 (by omega)]; exact hc 2 _ rfl⟩
structure S27 where
  f0 : ByteArray
  f1 : Int
  f2 : Int
  f3 : (List S68)
  f4 : (List ByteArray)
def z27 : S27 := ⟨(⟨#[]⟩ : ByteArray), (0 : Int), (0 : Int), ([] : List S68), ([] : List ByteArray)⟩
def k27 : Kd S27 := Kd.iso (Kd.pair Kd.string (Kd.pair (Kd.int .i64) (Kd.pair (Kd.int .i64) (Kd.pair (Kd.slice 68 k68) (Kd.slice 9 Kd.string))))) (fun x : S27 => (x.f0, x.f1, x.f2, x.f3, x.f4))
theorem k27_open {w : World} {x : S27} {cs : List Value} (h : k27.K w x cs) : ∃ A3 c3 A4 c4, cs = [.string x.f0, .int .i64 x.f1, .int .i64 x.f2, .slice A3 x.f3.length c3, .slice A4 x.f4.length c4] ∧ x.f3.length ≤ c3 ∧ k68.C w A3 x.f3.length x.f3 ∧ x.f4.length ≤ c4 ∧ Kd.string.C w A4 x.f4.length x.f4 := by
  obtain ⟨_, _, rfl, rfl, ⟨_, _, rfl, rfl, ⟨_, _, rfl, rfl, ⟨_, _, rfl, ⟨A3, c3, rfl, l3, g3⟩, ⟨A4, c4, rfl, l4, g4⟩⟩⟩⟩⟩ := h
  exact ⟨A3, c3, A4, c4, rfl, l3, g3, l4, g4⟩
theorem k27_openM {w : World} {base : Nat} {ok : Nat → Prop} {x : S27} {cs : List Value} (h : k27.M w base ok x cs) : ∃ v3 v4, cs = [.string x.f0, .int .i64 x.f1, .int .i64 x.f2, v3, v4] ∧ k68.R 68 w base ok v3 x.f3 ∧ Kd.string.R 9 w base ok v4 x.f4 := by
  obtain ⟨_, _, rfl, rfl, ⟨_, _, rfl, rfl, ⟨_, _, rfl, rfl, ⟨_, _, rfl, ⟨v3, rfl, g3⟩, ⟨v4, rfl, g4⟩⟩⟩⟩⟩ := h
  exact ⟨v3, v4, rfl, g3, g4⟩
theorem k27_mkM (w : World) (base : Nat) (ok : Nat → Prop) (x : S27) {v3 : Value} (g3 : k68.R 68 w base ok v3 x.f3) {v4 : Value} (g4 : Kd.string.R 9 w base ok v4 x.f4) : k27.M w base ok x [.string x.f0, .int .i64 x.f1, .int .i64 x.f2, v3, v4] := ⟨[.string x.f0], [.int .i64 x.f1, .int .i64 x.f2, v3, v4], rfl, rfl, ⟨[.int .i64 x.f1], [.int .i64 x.f2, v3, v4], rfl, rfl, ⟨[.int .i64 x.f2], [v3, v4], rfl, rfl, ⟨[v3], [v4], rfl, ⟨v3, rfl, g3⟩, ⟨v4, rfl, g4⟩⟩⟩⟩⟩
def rd_T27 (xs : List S27) (i : Int) : S27 := xs.getD i.toNat z27
theorem at_T27 {w : World} {A : Option Addr} {n : Nat} {xs : List S27} (h : Kd.C k27 w A n xs) (i : Int) (h0 : 0 ≤ i) (h1 : i < n) : ∃ ad A3 c3 A4 c4, A = some ad ∧ w.cell? (ad.add (i.toNat * 5)) = some (.string (rd_T27 xs i).f0) ∧ w.cell? ⟨(ad.add (i.toNat * 5)).block, (ad.add (i.toNat * 5)).off + 1, none⟩ = some (.int .i64 (rd_T27 xs i).f1) ∧ w.cell? ⟨(ad.add (i.toNat * 5)).block, (ad.add (i.toNat * 5)).off + 2, none⟩ = some (.int .i64 (rd_T27 xs i).f2) ∧ w.cell? ⟨(ad.add (i.toNat * 5)).block, (ad.add (i.toNat * 5)).off + 3, none⟩ = some (.slice A3 (rd_T27 xs i).f3.length c3) ∧ w.cell? ⟨(ad.add (i.toNat * 5)).block, (ad.add (i.toNat * 5)).off + 4, none⟩ = some (.slice A4 (rd_T27 xs i).f4.length c4) ∧ (rd_T27 xs i).f3.length ≤ c3 ∧ k68.C w A3 (rd_T27 xs i).f3.length (rd_T27 xs i).f3 ∧ (rd_T27 xs i).f4.length ≤ c4 ∧ Kd.string.C w A4 (rd_T27 xs i).f4.length (rd_T27 xs i).f4 := by
  obtain ⟨ad, c, e, _, hK, hc0⟩ := Kd.C_get h z27 i h0 h1
  have hc : ∀ j u, c[j]? = some u → w.cell? (ad.add (i.toNat * 5 + j)) = some u := hc0
  obtain ⟨A3, c3, A4, c4, rfl, l3, g3, l4, g4⟩ := k27_open hK
  exact ⟨ad, A3, c3, A4, c4, e, hc 0 _ rfl, by rw [← add_field _ _ 1 (by omega)]; exact hc 1 _ rfl, by rw [← add_field _ _ 2 (by omega)]; exact hc 2 _ rfl, by rw [← add_field _ _ 3 (by omega)]; exact hc 3 _ rfl, by rw [← add_field _ _ 4 (by omega)]; exact hc 4 _ rfl, l3, g3, l4, g4⟩
end Go.Proofs.Ytflfbaffapbpiaa.P
