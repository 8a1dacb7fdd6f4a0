/- Part 1 of what the law FnText stands on; the last part ends with the law's row. No condition of mine. -/
import Derived.Test.YtcibmjgofebmdaaDoorMFnText0
import Derived.Lib.ConvBytes
import Derived.Laws.AppendOwn
import Derived.ChangeArms
import Derived.DataReads
import Derived.SizedLaws
import Derived.Deep.Slices
import Derived.Lib.SlBytesRow
import Derived.Test.YtcibmjgofebmdaaDoorProg
import Derived.Below
import Derived.Deep.Draws
import Derived.Deep.AppendLies
import Derived.Maps.AppendAt
import Derived.OwnWalk
import Derived.Laws.BytesArg
import Derived.Laws.MakeOwn
import Derived.Laws.OwnMore
import Derived.Deep.OwnRows
import Derived.Tactics
import Derived.Laws.Slices
import Derived.WalkKit
import Derived.KernelRfl
import Derived.RowKit3
import Derived.Deep.LoopGhost
import Derived.Deep.QuietTactic
import Derived.BigQuiet
import Derived.WideLaws
import Derived.Deep.DeepCutAuto
import Derived.Deep.CutBlock
import Derived.Deep.RegionHeld3
import Derived.Laws.Rows
import Derived.Lib.AppendStr
import Derived.ArgAppend
import Derived.Laws.IdiomCopy
import Derived.OrdersHeld
import Derived.Laws.BitsLemmas
import Derived.RowKit
namespace Go.Proofs.YtcibmjgofebmdaaDoorW.PrintWords
open Go.RowKit
namespace Kd
end Kd
end Go.Proofs.YtcibmjgofebmdaaDoorW.PrintWords
namespace Go.Proofs.YtcibmjgofebmdaaDoorW.PrintWords
open Go.RowKit
end Go.Proofs.YtcibmjgofebmdaaDoorW.PrintWords
namespace Go.Proofs.YtcibmjgofebmdaaDoorW.PrintLast
end Go.Proofs.YtcibmjgofebmdaaDoorW.PrintLast
namespace Go.Proofs.YtcibmjgofebmdaaDoorW.PrintWords
open Go.RowKit
namespace Kd
end Kd
end Go.Proofs.YtcibmjgofebmdaaDoorW.PrintWords
namespace Go.Proofs.YtcibmjgofebmdaaDoorW.PrintWords
end Go.Proofs.YtcibmjgofebmdaaDoorW.PrintWords
namespace Go.Proofs.YtcibmjgofebmdaaDoorW.PrintWords
open Go.RowKit Go.ChangeShapes Go.WideShapes
section
variable {H : Type} {enc : TypeId × Value → H} {P : Program} {W : World}
def Tells (enc : TypeId × Value → H) (P : Program) (W : World) {α : Type} (t : TypeId) (d : Kd α) (S : α → Prop) : Prop :=
  ∀ (fuel : Nat) (cs : List Value) (x : DataW H × List MemPlace), DataW.trod enc P W 0 (fun _ => true) true fuel t cs = some x →
    (∀ n ∈ x.1.weights P t, n ≤ reachBytes) → ∃ y : α, d.K W y cs ∧ S y
theorem Tells.int {t : TypeId} {k : IntKind} (h : P.underlying t = some (.int k)) : Tells enc P W t (Kd.int k) (fun n => (Lit.int k n).wf = true) := by
  intro fuel cs x hx _
  obtain ⟨n, rfl, _, hw⟩ := DataW.trod_int h hx
  exact ⟨n, rfl, hw⟩
theorem Tells.bool {t : TypeId} (h : P.underlying t = some .bool) : Tells enc P W t Kd.bool (fun _ => True) := by
  intro fuel cs x hx _
  obtain ⟨b, rfl, _⟩ := DataW.trod_bool h hx
  exact ⟨b, rfl, trivial⟩
theorem Tells.string {t : TypeId} (h : P.underlying t = some .string) : Tells enc P W t Kd.string (fun s => s.size ≤ 140737488351232) := by
  intro fuel cs x hx hw
  obtain ⟨s, rfl, rfl, _⟩ := DataW.trod_string h hx
  refine ⟨s, rfl, ?_⟩
  have h1 := hw s.data.toList.length (by simp [DataW.weights])
  have h2 : reachBytes = 140737488351232 := by decide
  rw [h2] at h1
  simpa using h1
theorem weightsAll_mem {e : TypeId} : ∀ {l : List (DataW H)} {i : Nat} {z : DataW H}, l[i]? = some z → ∀ n ∈ z.weights P e, n ∈ DataW.weightsAll P e l
  | a :: l, 0, z, hz, n, hn => by
    simp only [List.getElem?_cons_zero, Option.some.injEq] at hz
    subst hz
    simp only [DataW.weightsAll, List.mem_append]
    exact Or.inl hn
  | a :: l, i + 1, z, hz, n, hn => by
    simp only [List.getElem?_cons_succ] at hz
    simp only [DataW.weightsAll, List.mem_append]
    exact Or.inr (weightsAll_mem hz n hn)
  | [], _, _, hz, _, _ => by simp at hz
theorem list_of {α : Type} {Q : Nat → α → Prop} (n : Nat) (h : ∀ i, i < n → ∃ y, Q i y) : ∃ l : List α, l.length = n ∧ ∀ i y, l[i]? = some y → Q i y := by
  induction n with
  | zero => exact ⟨[], rfl, fun i y hy => by simp at hy⟩
  | succ n ih =>
    obtain ⟨l, hl, hq⟩ := ih (fun i hi => h i (by omega))
    obtain ⟨y, hy⟩ := h n (by omega)
    refine ⟨l ++ [y], by simp [hl], fun i z hz => ?_⟩
    rcases Nat.lt_or_ge i l.length with hi | hi
    · rw [List.getElem?_append_left hi] at hz
      exact hq i z hz
    · have hin : i = n := by
        have := (List.getElem?_eq_some_iff.1 hz).1
        simp [hl] at this
        omega
      subst hin
      rw [← hl] at hz
      have : y = z := by simpa using hz
      subst this
      exact hy
theorem Tells.slice {α : Type} {t e : TypeId} {d : Kd α} {S : α → Prop} (h : P.underlying t = some (.slice e)) (hsz : P.cellsOf e = d.sz) {b : Nat} (hbt : P.bytesOf e = b) (he : Tells enc P W e d S) :
    Tells enc P W t (Kd.slice e d) (fun l => l.length ≤ maxLen ∧ l.length * b ≤ 140737488351232 ∧ ∀ y ∈ l, S y) := by
  intro fuel cs x hx hw
  rcases DataW.trod_slice h hx with ⟨rfl, rfl⟩ | ⟨a, len, cap, elems, rest, n, rfl, rfl, rfl, hb, hl, hm, hlen, hel, _, _⟩
  · exact ⟨[], ⟨none, 0, rfl, Nat.le_refl _, rfl, by simp, fun h => absurd h (by simp)⟩, by simp, by simp, by simp⟩
  · have hall : ∀ i, i < len → ∃ y : α, (∃ c, W.cells? 0 (a.add (i * P.cellsOf e)) (P.cellsOf e) = some c ∧ d.K W y c) ∧ S y := by
      intro i hi
      have h1 := hel i hi
      obtain ⟨z, hz⟩ : ∃ z, elems[i]? = some z := ⟨elems[i]'(by omega), List.getElem?_eq_getElem (by omega)⟩
      rw [hz] at h1
      obtain ⟨c, hc, ht⟩ := Option.bind_eq_some_iff.1 h1
      obtain ⟨y, hy, hs⟩ := he n c z ht (fun m hm => hw m (by
        simp only [DataW.weights, h, List.mem_cons, List.mem_append]
        exact Or.inr (Or.inl (weightsAll_mem (i := i) (z := z.1) (by simp [hz]) m hm))))
      exact ⟨y, ⟨c, hc, hy⟩, hs⟩
    obtain ⟨l, hll, hq⟩ := list_of len hall
    have hmax : len ≤ 9223372036854775807 := Nat.le_trans hl (Nat.le_trans hm (by decide))
    refine ⟨l, ⟨some a, cap, by rw [hll], by rw [hll]; exact hl, rfl, by rw [hll]; exact hmax, fun _ => ⟨a, rfl, fun j p hj => ?_⟩⟩, by rw [hll]; exact Nat.le_trans hl hm, ?_, fun y hy => ?_⟩
    · obtain ⟨⟨c, hc, hk⟩, _⟩ := hq j p hj
      refine ⟨c, d.K_len hk, hk, fun i u hu => ?_⟩
      obtain ⟨_, hcl, hat⟩ := World.cells?_some hc
      have hi : i < P.cellsOf e := by rw [← hcl]; exact (List.getElem?_eq_some_iff.1 hu).1
      rw [← hsz, ← Go.Deep.add_add, hat i hi, hu]
    · have h1 := hw ((elems.map (·.1)).length + (rest.map (·.1)).length |> (· * P.bytesOf e)) (by simp [DataW.weights, h])
      have h2 : reachBytes = 140737488351232 := by decide
      rw [h2, hbt] at h1
      simp only [List.length_map] at h1
      rw [hll, ← hlen]
      exact Nat.le_trans (Nat.mul_le_mul_right _ (Nat.le_add_right _ _)) h1
    · obtain ⟨i, hi⟩ := List.getElem?_of_mem hy
      exact (hq i y hi).2
def TellsF (enc : TypeId × Value → H) (P : Program) (W : World) {α : Type} (fs : List Field) (off : Nat) (d : Kd α) (S : α → Prop) : Prop :=
  ∀ (n : Nat) (cs : List Value) (xs : List (DataW H × List MemPlace)), xs.length = fs.length →
    (∀ (i : Nat) (f : Field), fs[i]? = some f → DataW.trod enc P W 0 (fun _ => true) true n f.type ((cs.drop f.offset).take (P.cellsOf f.type)) = xs[i]?) →
    (∀ m ∈ DataW.weightsEach P (fs.map (·.type)) (xs.map (·.1)), m ≤ reachBytes) → ∃ y : α, d.K W y ((cs.drop off).take d.sz) ∧ S y
theorem TellsF.one {α : Type} {f : Field} {d : Kd α} {S : α → Prop} (hsz : P.cellsOf f.type = d.sz) (h : Tells enc P W f.type d S) : TellsF enc P W [f] f.offset d S := by
  intro n cs xs hl hx hw
  match xs, hl with
  | [x], _ =>
    have h1 := hx 0 f rfl
    rw [hsz] at h1
    exact h n _ x h1 (fun m hm => hw m (by simp [DataW.weightsEach, hm]))
theorem TellsF.cons {α β : Type} {f : Field} {fs : List Field} {off : Nat} {d : Kd α} {S : α → Prop} {d' : Kd β} {S' : β → Prop} (hsz : P.cellsOf f.type = d.sz) (h : Tells enc P W f.type d S) (hoff : off = f.offset + d.sz) (h' : TellsF enc P W fs off d' S') :
    TellsF enc P W (f :: fs) f.offset (Kd.pair d d') (fun y => S y.1 ∧ S' y.2) := by
  intro n cs xs hl hx hw
  match xs, hl with
  | x :: xs, hl =>
    have h1 := hx 0 f rfl
    rw [hsz] at h1
    obtain ⟨y, hy, hs⟩ := h n _ x h1 (fun m hm => hw m (by simp [DataW.weightsEach, hm]))
    obtain ⟨z, hz, hs'⟩ := h' n cs xs (by simpa using hl) (fun i g hg => hx (i + 1) g (by simpa using hg)) (fun m hm => hw m (by simp only [List.map_cons, DataW.weightsEach, List.mem_append]; exact Or.inr hm))
    refine ⟨(y, z), ⟨_, _, ?_, hy, hz⟩, hs, hs'⟩
    show (cs.drop f.offset).take (d.sz + d'.sz) = _
    rw [List.take_add, List.drop_drop, hoff]
theorem Tells.arg {α : Type} {t : TypeId} {d : Kd α} {S : α → Prop} (h : Tells enc P W t d S) {v : Value} {z : DataW H} {p : List MemPlace} (ht : DataW.Trod enc P W 0 (fun _ => true) true t v z p) {ts : List TypeId} {ds : List (DataW H)} {j : Nat}
    (hsz : (DataW.weightsEach P ts ds).all (· ≤ reachBytes) = true) (htj : ts[j]? = some t) (hdj : ds[j]? = some z) : ∃ y : α, d.K W y v.cells.toList ∧ S y := by
  obtain ⟨fuel, hf⟩ := ht
  exact h fuel _ _ hf (fun n hn => by
    have := List.all_eq_true.1 hsz n (DataW.weights_mem_each htj hdj n hn)
    simpa using this)
end
end Go.Proofs.YtcibmjgofebmdaaDoorW.PrintWords
namespace Go.Proofs.YtcibmjgofebmdaaDoorW.PrintWords
open Go.RowKit
structure RowB (w : World) (g : Nat) (l : List UInt8) : Prop where
  cell : ∀ j (h : j < l.length), w.cell? ⟨g, j, none⟩ = some (.int .u8 ((l[j]'h).toNat : Int))
  free : ∀ j, j < l.length → w.frozen? ⟨g, j, none⟩ = false
theorem setCell_at (w : World) (g j : Nat) (v : Value) {u : Value} (h : w.cell? ⟨g, j, none⟩ = some u) (i : Nat) : (w.setCell ⟨g, j, none⟩ v).cell? ⟨g, i, none⟩ = if i = j then some v else w.cell? ⟨g, i, none⟩ := by
  have hg := World.block_lt_of_cell? _ _ h
  simp only at hg
  unfold World.cell? at h ⊢
  simp only [World.setCell, Array.getElem?_modify] at h ⊢
  cases hb : w.heap[g]? with
  | none => rw [hb] at h; simp at h
  | some o =>
    rw [hb] at h
    cases o with
    | cells c e f =>
      simp only [Option.isSome_none, Bool.false_eq_true, if_false] at h ⊢
      simp only [if_true, Option.map_some]
      rw [Array.getElem?_setIfInBounds]
      have hj : j < c.size := (Array.getElem?_eq_some_iff.1 h).1
      by_cases e1 : i = j
      · subst e1; simp [hj]
      · have e2 : ¬ j = i := fun e => e1 e.symm
        simp [e1, e2]
    | _ => simp at h
theorem setCell_frozen (w : World) (g j : Nat) (v : Value) (i : Nat) : (w.setCell ⟨g, j, none⟩ v).frozen? ⟨g, i, none⟩ = w.frozen? ⟨g, i, none⟩ := by
  unfold World.frozen?
  simp only [World.setCell, Array.getElem?_modify]
  cases hb : w.heap[g]? with
  | none => simp
  | some o => cases o <;> simp
theorem RowB.set {w : World} {g : Nat} {l : List UInt8} (h : RowB w g l) (j : Nat) (hj : j < l.length) (b : UInt8) (v : Int) (hv : v = (b.toNat : Int)) : RowB (w.setCell ⟨g, j, none⟩ (.int .u8 v)) g (l.set j b) := by
  refine ⟨fun i hi => ?_, fun i hi => ?_⟩
  · rw [setCell_at w g j _ (h.cell j hj)]
    rw [List.length_set] at hi
    by_cases e : i = j
    · subst e; simp [hv]
    · rw [if_neg e, h.cell i hi, List.getElem_set_ne (fun x => e x.symm)]
  · rw [setCell_frozen]
    exact h.free i (by rwa [List.length_set] at hi)
theorem RowB.bytes {w : World} {g : Nat} {l : List UInt8} (h : RowB w g l) : Lib.Bytes w g 0 ⟨l.toArray⟩ := fun i hi => by
  have hi' : i < l.length := Nat.lt_of_lt_of_eq hi (show l.toArray.size = l.length from List.size_toArray)
  have := h.cell i hi'
  rw [Nat.zero_add, this]
  rfl
theorem RowB.conv (w : World) (e : TypeId) (s : ByteArray) : RowB (Lib.bytesWorld w e s) w.heap.size s.data.toList := by
  have hl : s.data.toList.length = s.size := by simp
  refine ⟨fun j hj => ?_, fun j hj => ?_⟩
  · rw [Lib.bytesWorld_cell w e s j (by omega), List.getD_eq_getElem?_getD, List.getElem?_eq_getElem hj]
    rfl
  · have hs : s.size ≤ (Lib.bytesCells w e s).size := by simp [Lib.bytesCells]
    simp only [World.frozen?, Lib.bytesWorld_at_new]
    simp
    omega
namespace Kd
end Kd
end Go.Proofs.YtcibmjgofebmdaaDoorW.PrintWords
namespace Go.Proofs.YtcibmjgofebmdaaDoorW.PrintWords
end Go.Proofs.YtcibmjgofebmdaaDoorW.PrintWords
namespace Go.Proofs.YtcibmjgofebmdaaDoorW.PrintWords
open Go.RowKit Go.Proofs.YtcibmjgofebmdaaDoorW.PrintLast
theorem qr_ {P Q : Prop} (H : Aside0 P) (h : P → Q := by intro h; (with_reducible repeat (first | apply Kd.R_alloc | apply Kd.R_drewN | apply Kd.R_drew)); exact h) : Q := h H.out
theorem qk_ {P Q : Prop} (H : Aside0 P) (h : P → Q := by intro h; (with_reducible repeat (first | refine blk_drewN ?_ _ | refine blk_drew ?_ | refine blk_alloc ?_ _)); exact h) : Q := h H.out
theorem qcc_ {P Q : Prop} (H : P) (h : P → Q := by intro h; repeat (first | exact h | (with_reducible refine Kd.C_alloc ?_ _) | (with_reducible refine Kd.C_drewN ?_ _) | (with_reducible refine Kd.C_drew ?_))) : Q := h H
abbrev qT : Bool := true
abbrev qF : Bool := false
theorem qh_ {E H R : Prop} (e : E) (h0 : H) (h : E → H → R := by intro hy_ H; first | (rw [hy_]; with_reducible exact H) | (have H2_ := (Option.bind_some _ _).symm.trans H; rw [hy_]; with_reducible exact H2_) | (have H2_ := (Option.bind_some _ _).symm.trans H; with_reducible exact H2_) | with_reducible exact H | (rw [hy_]; exact H) | exact H) : R := h e h0
theorem qj_ {E H R : Prop} (e : E) (h0 : H) (h : E → H → R := by intro hy_ H; first | (rw [hy_] at H; exact H) | (simp only [hy_] at H ⊢; exact H)) : R := h e h0
theorem qd_ {p : Prop} [Decidable p] (h : decide p = true := by first | (with_reducible assumption) | assumption) : p := of_decide_eq_true h
theorem qK {P : Prop} (h : P := by kernel_rfl) : P := h
abbrev BA_ := ByteArray
theorem qee_ {P : Prop} (h : P := by first | rfl | (simp [errW_none, errW_some] <;> rfl) | (simp [*, errW_none, errW_some] <;> rfl)) : P := h
theorem qff_ {P : Prop} (h : P := by first | rfl | (simp; done) | (simp [*]; done)) : P := h
theorem qll_ {P : Prop} (h : P := by (try simp only [List.map_toArray, List.map_cons, List.map_nil]); first | done | rfl | (simp only [List.length_drop, List.length_take]; rfl)) : P := h
theorem qS_ {α : Type} : (∀ (l : List α) (i : Nat) (a : α), l.toArray.setIfInBounds i a = (l.set i a).toArray) ∧ (∀ (x y : α) (l : List α), (x :: l).set 0 y = y :: l) ∧ (∀ (x y : α) (l : List α) (i : Nat), (x :: l).set (i + 1) y = x :: l.set i y) := ⟨fun _ _ _ => List.setIfInBounds_toArray .., fun _ _ _ => List.set_cons_zero .., fun _ _ _ _ => List.set_cons_succ ..⟩
theorem qW_ : (∀ n : Int, IntKind.i64.wrap n = wrap64 n) ∧ (∀ n : Int, IntKind.i32.wrap n = wrap32 n) := ⟨i64_w, i32_w⟩
theorem qBHB {P : Prop} (h : P := by repeat (first | (with_reducible first | exact HB.out | apply below_alloc | apply pw_below_drewN | apply below_drew1 | refine below_set ?_ (IsS53.ge HI0.out) | refine below_set ?_ (IsS53.ge HI104.out)) | (with_reducible apply below_set) | exact HB.out | exact Aside0.out (by with_reducible assumption))) : P := h
theorem qBHBW {P : Prop} (h : P := by repeat (first | (with_reducible first | exact HBW.out | apply below_alloc | apply pw_below_drewN | apply below_drew1) | (with_reducible apply below_set) | exact HBW.out | exact Aside0.out (by with_reducible assumption))) : P := h
theorem qI53HI0 {P : Prop} (h : P := by repeat (first | (with_reducible first | exact HI0.out | apply IsS53.alloc | apply IsS53.drewN | apply IsS53.drew | apply IsS53.set_1 | apply IsS53.set_2) | exact HI0.out | exact Aside0.out (by with_reducible assumption))) : P := h
theorem qI53HI104 {P : Prop} (h : P := by repeat (first | (with_reducible first | exact HI104.out | apply IsS53.alloc | apply IsS53.drewN | apply IsS53.drew | apply IsS53.set_1 | apply IsS53.set_2) | exact HI104.out | exact Aside0.out (by with_reducible assumption))) : P := h
theorem qKHK {P : Prop} (h : P := by repeat (first | (with_reducible first | exact HK.out | apply KeepBut.set_ | apply keep_drewN | apply keep_drew | apply keep_alloc) | exact HK.out | exact Aside0.out (by with_reducible assumption))) : P := h
end Go.Proofs.YtcibmjgofebmdaaDoorW.PrintWords
namespace Go.Proofs.YtcibmjgofebmdaaDoor.P
open Go.RowKit Go.Proofs.YtcibmjgofebmdaaDoorW.PrintWords Go.Proofs.YtcibmjgofebmdaaDoorW.PrintLast Go.Proofs.YtcibmjgofebmdaaDoorW.PrintMore
attribute [local go_sem] max2_int min2_int max_two min_two max_three min_three max_four min_four   -- for this text's walks alone
set_option linter.unusedVariables false
set_option linter.unusedSimpArgs false
def errW : Option Int → Value
  | none => .nilIface
  | some c => .iface 0 (.int .i64 c)
theorem errW_none : errW none = .nilIface := rfl
theorem errW_some (c : Int) : errW (some c) = .iface 0 (.int .i64 c) := rfl
theorem info3 : (Tryd.prog.info? 3).map (fun i => (i.zero, i.size, i.bytes)) = some (some (.int .i64 0), 1, 8) := by kernel_rfl
theorem info5 : (Tryd.prog.info? 5).map (fun i => (i.zero, i.size, i.bytes)) = some (some (.int .u8 0), 1, 1) := by kernel_rfl
end Go.Proofs.YtcibmjgofebmdaaDoor.P
