/- Part 1 of what the law FnExactParseMail stands on; the last part ends with the law's row. No condition of mine. -/
import Derived.Test.YtcpdbobkpbmjiaaDoorMFnExactParseMail0
import Derived.Lib.ConvBytes
import Derived.Laws.AppendOwn
import Derived.ChangeArms
import Derived.DataReads
import Derived.SizedLaws
import Derived.Deep.Slices
import Derived.Lib.SlBytesRow
import Derived.Test.YtcpdbobkpbmjiaaDoorProg
import Derived.Below
import Derived.Deep.Draws
import Derived.Deep.AppendLies
import Derived.Maps.AppendAt
import Derived.OwnWalk
import Derived.Laws.BytesArg
import Derived.Laws.MakeOwn
import Derived.Laws.OwnMore
import Derived.Deep.OwnRows
import Derived.Tactics
import Derived.Laws.Slices
import Derived.WalkKit
import Derived.KernelRfl
import Derived.RowKit3
import Derived.Deep.LoopGhost
import Derived.Deep.QuietTactic
import Derived.BigQuiet
import Derived.WideLaws
import Derived.Deep.DeepCutAuto
import Derived.Deep.CutBlock
import Derived.Deep.RegionHeld3
import Derived.Laws.Rows
import Derived.Lib.AppendStr
import Derived.ArgAppend
import Derived.Laws.IdiomCopy
import Derived.OrdersHeld
import Derived.Laws.BitsLemmas
import Derived.RowKit
namespace Go.Proofs.YtcpdbobkpbmjiaaDoorW.PrintWords
open Go.RowKit
namespace Kd
end Kd
end Go.Proofs.YtcpdbobkpbmjiaaDoorW.PrintWords
namespace Go.Proofs.YtcpdbobkpbmjiaaDoorW.PrintWords
open Go.RowKit
end Go.Proofs.YtcpdbobkpbmjiaaDoorW.PrintWords
namespace Go.Proofs.YtcpdbobkpbmjiaaDoorW.PrintLast
end Go.Proofs.YtcpdbobkpbmjiaaDoorW.PrintLast
namespace Go.Proofs.YtcpdbobkpbmjiaaDoorW.PrintWords
open Go.RowKit
namespace Kd
def Z {α : Type} (d : Kd α) (e : Nat) (w : World) (base : Nat) (v : Value) (xs : List α) : Prop :=
  ∃ (enc : α → Value) (g cap : Nat) (cur : Array Value) (fz : Nat × Nat), (∀ W x, d.K W x [enc x]) ∧ d.sz = 1 ∧ v = .slice (some ⟨g, 0, none⟩) xs.length cap ∧ base ≤ g ∧
    w.heap[g]? = some (.cells cur e fz) ∧ xs.length ≤ cap ∧ xs.length ≤ 9223372036854775807 ∧ xs.length ≤ fz.1 ∧ cur.toList.take xs.length = xs.map enc
def G {α : Type} (d : Kd α) (e : Nat) (w : World) (base : Nat) (ok : Nat → Prop) (v : Value) (xs : List α) : Prop := (∀ k, v.ownBlock = some k → ok k) ∧ (d.R e w base ok v xs ∨ Z d e w base v xs)
end Kd
end Go.Proofs.YtcpdbobkpbmjiaaDoorW.PrintWords
namespace Go.Proofs.YtcpdbobkpbmjiaaDoorW.PrintWords
end Go.Proofs.YtcpdbobkpbmjiaaDoorW.PrintWords
namespace Go.Proofs.YtcpdbobkpbmjiaaDoorW.PrintWords
open Go.RowKit Go.ChangeShapes Go.WideShapes
section
variable {H : Type} {enc : TypeId × Value → H} {P : Program} {W : World}
def Tells (enc : TypeId × Value → H) (P : Program) (W : World) {α : Type} (t : TypeId) (d : Kd α) (S : α → Prop) : Prop :=
  ∀ (fuel : Nat) (cs : List Value) (x : DataW H × List MemPlace), DataW.trod enc P W 0 (fun _ => true) true fuel t cs = some x →
    (∀ n ∈ x.1.weights P t, n ≤ reachBytes) → ∃ y : α, d.K W y cs ∧ S y
theorem Tells.int {t : TypeId} {k : IntKind} (h : P.underlying t = some (.int k)) : Tells enc P W t (Kd.int k) (fun n => (Lit.int k n).wf = true) := by
  intro fuel cs x hx _
  obtain ⟨n, rfl, _, hw⟩ := DataW.trod_int h hx
  exact ⟨n, rfl, hw⟩
theorem Tells.bool {t : TypeId} (h : P.underlying t = some .bool) : Tells enc P W t Kd.bool (fun _ => True) := by
  intro fuel cs x hx _
  obtain ⟨b, rfl, _⟩ := DataW.trod_bool h hx
  exact ⟨b, rfl, trivial⟩
theorem Tells.string {t : TypeId} (h : P.underlying t = some .string) : Tells enc P W t Kd.string (fun s => s.size ≤ 140737488351232) := by
  intro fuel cs x hx hw
  obtain ⟨s, rfl, rfl, _⟩ := DataW.trod_string h hx
  refine ⟨s, rfl, ?_⟩
  have h1 := hw s.data.toList.length (by simp [DataW.weights])
  have h2 : reachBytes = 140737488351232 := by decide
  rw [h2] at h1
  simpa using h1
theorem weightsAll_mem {e : TypeId} : ∀ {l : List (DataW H)} {i : Nat} {z : DataW H}, l[i]? = some z → ∀ n ∈ z.weights P e, n ∈ DataW.weightsAll P e l
  | a :: l, 0, z, hz, n, hn => by
    simp only [List.getElem?_cons_zero, Option.some.injEq] at hz
    subst hz
    simp only [DataW.weightsAll, List.mem_append]
    exact Or.inl hn
  | a :: l, i + 1, z, hz, n, hn => by
    simp only [List.getElem?_cons_succ] at hz
    simp only [DataW.weightsAll, List.mem_append]
    exact Or.inr (weightsAll_mem hz n hn)
  | [], _, _, hz, _, _ => by simp at hz
theorem list_of {α : Type} {Q : Nat → α → Prop} (n : Nat) (h : ∀ i, i < n → ∃ y, Q i y) : ∃ l : List α, l.length = n ∧ ∀ i y, l[i]? = some y → Q i y := by
  induction n with
  | zero => exact ⟨[], rfl, fun i y hy => by simp at hy⟩
  | succ n ih =>
    obtain ⟨l, hl, hq⟩ := ih (fun i hi => h i (by omega))
    obtain ⟨y, hy⟩ := h n (by omega)
    refine ⟨l ++ [y], by simp [hl], fun i z hz => ?_⟩
    rcases Nat.lt_or_ge i l.length with hi | hi
    · rw [List.getElem?_append_left hi] at hz
      exact hq i z hz
    · have hin : i = n := by
        have := (List.getElem?_eq_some_iff.1 hz).1
        simp [hl] at this
        omega
      subst hin
      rw [← hl] at hz
      have : y = z := by simpa using hz
      subst this
      exact hy
theorem Tells.slice {α : Type} {t e : TypeId} {d : Kd α} {S : α → Prop} (h : P.underlying t = some (.slice e)) (hsz : P.cellsOf e = d.sz) {b : Nat} (hbt : P.bytesOf e = b) (he : Tells enc P W e d S) :
    Tells enc P W t (Kd.slice e d) (fun l => l.length ≤ maxLen ∧ l.length * b ≤ 140737488351232 ∧ ∀ y ∈ l, S y) := by
  intro fuel cs x hx hw
  rcases DataW.trod_slice h hx with ⟨rfl, rfl⟩ | ⟨a, len, cap, elems, rest, n, rfl, rfl, rfl, hb, hl, hm, hlen, hel, _, _⟩
  · exact ⟨[], ⟨none, 0, rfl, Nat.le_refl _, rfl, by simp, fun h => absurd h (by simp)⟩, by simp, by simp, by simp⟩
  · have hall : ∀ i, i < len → ∃ y : α, (∃ c, W.cells? 0 (a.add (i * P.cellsOf e)) (P.cellsOf e) = some c ∧ d.K W y c) ∧ S y := by
      intro i hi
      have h1 := hel i hi
      obtain ⟨z, hz⟩ : ∃ z, elems[i]? = some z := ⟨elems[i]'(by omega), List.getElem?_eq_getElem (by omega)⟩
      rw [hz] at h1
      obtain ⟨c, hc, ht⟩ := Option.bind_eq_some_iff.1 h1
      obtain ⟨y, hy, hs⟩ := he n c z ht (fun m hm => hw m (by
        simp only [DataW.weights, h, List.mem_cons, List.mem_append]
        exact Or.inr (Or.inl (weightsAll_mem (i := i) (z := z.1) (by simp [hz]) m hm))))
      exact ⟨y, ⟨c, hc, hy⟩, hs⟩
    obtain ⟨l, hll, hq⟩ := list_of len hall
    have hmax : len ≤ 9223372036854775807 := Nat.le_trans hl (Nat.le_trans hm (by decide))
    refine ⟨l, ⟨some a, cap, by rw [hll], by rw [hll]; exact hl, rfl, by rw [hll]; exact hmax, fun _ => ⟨a, rfl, fun j p hj => ?_⟩⟩, by rw [hll]; exact Nat.le_trans hl hm, ?_, fun y hy => ?_⟩
    · obtain ⟨⟨c, hc, hk⟩, _⟩ := hq j p hj
      refine ⟨c, d.K_len hk, hk, fun i u hu => ?_⟩
      obtain ⟨_, hcl, hat⟩ := World.cells?_some hc
      have hi : i < P.cellsOf e := by rw [← hcl]; exact (List.getElem?_eq_some_iff.1 hu).1
      rw [← hsz, ← Go.Deep.add_add, hat i hi, hu]
    · have h1 := hw ((elems.map (·.1)).length + (rest.map (·.1)).length |> (· * P.bytesOf e)) (by simp [DataW.weights, h])
      have h2 : reachBytes = 140737488351232 := by decide
      rw [h2, hbt] at h1
      simp only [List.length_map] at h1
      rw [hll, ← hlen]
      exact Nat.le_trans (Nat.mul_le_mul_right _ (Nat.le_add_right _ _)) h1
    · obtain ⟨i, hi⟩ := List.getElem?_of_mem hy
      exact (hq i y hi).2
def TellsF (enc : TypeId × Value → H) (P : Program) (W : World) {α : Type} (fs : List Field) (off : Nat) (d : Kd α) (S : α → Prop) : Prop :=
  ∀ (n : Nat) (cs : List Value) (xs : List (DataW H × List MemPlace)), xs.length = fs.length →
    (∀ (i : Nat) (f : Field), fs[i]? = some f → DataW.trod enc P W 0 (fun _ => true) true n f.type ((cs.drop f.offset).take (P.cellsOf f.type)) = xs[i]?) →
    (∀ m ∈ DataW.weightsEach P (fs.map (·.type)) (xs.map (·.1)), m ≤ reachBytes) → ∃ y : α, d.K W y ((cs.drop off).take d.sz) ∧ S y
theorem TellsF.one {α : Type} {f : Field} {d : Kd α} {S : α → Prop} (hsz : P.cellsOf f.type = d.sz) (h : Tells enc P W f.type d S) : TellsF enc P W [f] f.offset d S := by
  intro n cs xs hl hx hw
  match xs, hl with
  | [x], _ =>
    have h1 := hx 0 f rfl
    rw [hsz] at h1
    exact h n _ x h1 (fun m hm => hw m (by simp [DataW.weightsEach, hm]))
theorem TellsF.cons {α β : Type} {f : Field} {fs : List Field} {off : Nat} {d : Kd α} {S : α → Prop} {d' : Kd β} {S' : β → Prop} (hsz : P.cellsOf f.type = d.sz) (h : Tells enc P W f.type d S) (hoff : off = f.offset + d.sz) (h' : TellsF enc P W fs off d' S') :
    TellsF enc P W (f :: fs) f.offset (Kd.pair d d') (fun y => S y.1 ∧ S' y.2) := by
  intro n cs xs hl hx hw
  match xs, hl with
  | x :: xs, hl =>
    have h1 := hx 0 f rfl
    rw [hsz] at h1
    obtain ⟨y, hy, hs⟩ := h n _ x h1 (fun m hm => hw m (by simp [DataW.weightsEach, hm]))
    obtain ⟨z, hz, hs'⟩ := h' n cs xs (by simpa using hl) (fun i g hg => hx (i + 1) g (by simpa using hg)) (fun m hm => hw m (by simp only [List.map_cons, DataW.weightsEach, List.mem_append]; exact Or.inr hm))
    refine ⟨(y, z), ⟨_, _, ?_, hy, hz⟩, hs, hs'⟩
    show (cs.drop f.offset).take (d.sz + d'.sz) = _
    rw [List.take_add, List.drop_drop, hoff]
theorem Tells.struct {α β : Type} {t : TypeId} {fs : Array Field} {d : Kd α} {S : α → Prop} {f : β → α} (g : α → β) (hfg : ∀ y, f (g y) = y) (h : P.underlying t = some (.struct fs)) (hsz : P.cellsOf t = d.sz) (hf : TellsF enc P W fs.toList 0 d S) :
    Tells enc P W t (Kd.iso d f) (fun x => S (f x)) := by
  intro fuel cs x hx hw
  obtain ⟨xs, n, _, rfl, hlen, hl, hg⟩ := DataW.trod_struct h hx
  obtain ⟨y, hy, hs⟩ := hf n cs xs (by simpa using hl) (fun i f' hf' => hg i f' (by simpa using hf')) (fun m hm => hw m (by simpa [DataW.weights, h] using hm))
  refine ⟨g y, ?_, by show S (f (g y)); rw [hfg]; exact hs⟩
  show d.K W (f (g y)) cs
  rw [hfg]
  have : (cs.drop 0).take d.sz = cs := by rw [List.drop_zero, ← hsz, ← hlen, List.take_length]
  rwa [this] at hy
theorem Tells.arg {α : Type} {t : TypeId} {d : Kd α} {S : α → Prop} (h : Tells enc P W t d S) {v : Value} {z : DataW H} {p : List MemPlace} (ht : DataW.Trod enc P W 0 (fun _ => true) true t v z p) {ts : List TypeId} {ds : List (DataW H)} {j : Nat}
    (hsz : (DataW.weightsEach P ts ds).all (· ≤ reachBytes) = true) (htj : ts[j]? = some t) (hdj : ds[j]? = some z) : ∃ y : α, d.K W y v.cells.toList ∧ S y := by
  obtain ⟨fuel, hf⟩ := ht
  exact h fuel _ _ hf (fun n hn => by
    have := List.all_eq_true.1 hsz n (DataW.weights_mem_each htj hdj n hn)
    simpa using this)
end
end Go.Proofs.YtcpdbobkpbmjiaaDoorW.PrintWords
namespace Go.Proofs.YtcpdbobkpbmjiaaDoorW.PrintWords
open Go.RowKit
structure RowB (w : World) (g : Nat) (l : List UInt8) : Prop where
  cell : ∀ j (h : j < l.length), w.cell? ⟨g, j, none⟩ = some (.int .u8 ((l[j]'h).toNat : Int))
  free : ∀ j, j < l.length → w.frozen? ⟨g, j, none⟩ = false
theorem setCell_at (w : World) (g j : Nat) (v : Value) {u : Value} (h : w.cell? ⟨g, j, none⟩ = some u) (i : Nat) : (w.setCell ⟨g, j, none⟩ v).cell? ⟨g, i, none⟩ = if i = j then some v else w.cell? ⟨g, i, none⟩ := by
  have hg := World.block_lt_of_cell? _ _ h
  simp only at hg
  unfold World.cell? at h ⊢
  simp only [World.setCell, Array.getElem?_modify] at h ⊢
  cases hb : w.heap[g]? with
  | none => rw [hb] at h; simp at h
  | some o =>
    rw [hb] at h
    cases o with
    | cells c e f =>
      simp only [Option.isSome_none, Bool.false_eq_true, if_false] at h ⊢
      simp only [if_true, Option.map_some]
      rw [Array.getElem?_setIfInBounds]
      have hj : j < c.size := (Array.getElem?_eq_some_iff.1 h).1
      by_cases e1 : i = j
      · subst e1; simp [hj]
      · have e2 : ¬ j = i := fun e => e1 e.symm
        simp [e1, e2]
    | _ => simp at h
theorem setCell_frozen (w : World) (g j : Nat) (v : Value) (i : Nat) : (w.setCell ⟨g, j, none⟩ v).frozen? ⟨g, i, none⟩ = w.frozen? ⟨g, i, none⟩ := by
  unfold World.frozen?
  simp only [World.setCell, Array.getElem?_modify]
  cases hb : w.heap[g]? with
  | none => simp
  | some o => cases o <;> simp
theorem RowB.set {w : World} {g : Nat} {l : List UInt8} (h : RowB w g l) (j : Nat) (hj : j < l.length) (b : UInt8) (v : Int) (hv : v = (b.toNat : Int)) : RowB (w.setCell ⟨g, j, none⟩ (.int .u8 v)) g (l.set j b) := by
  refine ⟨fun i hi => ?_, fun i hi => ?_⟩
  · rw [setCell_at w g j _ (h.cell j hj)]
    rw [List.length_set] at hi
    by_cases e : i = j
    · subst e; simp [hv]
    · rw [if_neg e, h.cell i hi, List.getElem_set_ne (fun x => e x.symm)]
  · rw [setCell_frozen]
    exact h.free i (by rwa [List.length_set] at hi)
theorem RowB.bytes {w : World} {g : Nat} {l : List UInt8} (h : RowB w g l) : Lib.Bytes w g 0 ⟨l.toArray⟩ := fun i hi => by
  have hi' : i < l.length := Nat.lt_of_lt_of_eq hi (show l.toArray.size = l.length from List.size_toArray)
  have := h.cell i hi'
  rw [Nat.zero_add, this]
  rfl
namespace Kd
end Kd
end Go.Proofs.YtcpdbobkpbmjiaaDoorW.PrintWords
namespace Go.Proofs.YtcpdbobkpbmjiaaDoorW.PrintWords
end Go.Proofs.YtcpdbobkpbmjiaaDoorW.PrintWords
namespace Go.Proofs.YtcpdbobkpbmjiaaDoor.P
open Go.RowKit Go.Proofs.YtcpdbobkpbmjiaaDoorW.PrintWords Go.Proofs.YtcpdbobkpbmjiaaDoorW.PrintLast Go.Proofs.YtcpdbobkpbmjiaaDoorW.PrintMore
attribute [local go_sem] max2_int min2_int max_two min_two max_three min_three max_four min_four   -- for this text's walks alone
set_option linter.unusedVariables false
set_option linter.unusedSimpArgs false
def errW : Option Int → Value
  | none => .nilIface
  | some c => .iface 0 (.int .i64 c)
theorem errW_none : errW none = .nilIface := rfl
theorem errW_some (c : Int) : errW (some c) = .iface 0 (.int .i64 c) := rfl
theorem info5 : (Tryd.prog.info? 5).map (fun i => (i.zero, i.size, i.bytes)) = some (some (.int .u8 0), 1, 1) := by kernel_rfl
theorem info49 : (Tryd.prog.info? 49).map (fun i => (i.zero, i.size, i.bytes)) = some (some (.agg #[(.string ⟨#[]⟩), (.string ⟨#[]⟩)]), 2, 32) := by kernel_rfl
structure S49 where
  f0 : ByteArray
  f1 : ByteArray
def z49 : S49 := ⟨(⟨#[]⟩ : ByteArray), (⟨#[]⟩ : ByteArray)⟩
def k49 : Kd S49 := Kd.iso (Kd.pair Kd.string Kd.string) (fun x : S49 => (x.f0, x.f1))
theorem k49_open {w : World} {x : S49} {cs : List Value} (h : k49.K w x cs) : cs = [.string x.f0, .string x.f1] := by
  obtain ⟨_, _, rfl, rfl, rfl⟩ := h
  exact rfl
theorem k49_openM {w : World} {base : Nat} {ok : Nat → Prop} {x : S49} {cs : List Value} (h : k49.M w base ok x cs) : cs = [.string x.f0, .string x.f1] := by
  obtain ⟨_, _, rfl, rfl, rfl⟩ := h
  exact rfl
theorem k49_mkM (w : World) (base : Nat) (ok : Nat → Prop) (x : S49)  : k49.M w base ok x [.string x.f0, .string x.f1] := ⟨[.string x.f0], [.string x.f1], rfl, rfl, rfl⟩
def rd_T49 (xs : List S49) (i : Int) : S49 := xs.getD i.toNat z49
theorem at_T49 {w : World} {A : Option Addr} {n : Nat} {xs : List S49} (h : Kd.C k49 w A n xs) (i : Int) (h0 : 0 ≤ i) (h1 : i < n) : ∃ ad , A = some ad ∧ w.cell? (ad.add (i.toNat * 2)) = some (.string (rd_T49 xs i).f0) ∧ w.cell? ⟨(ad.add (i.toNat * 2)).block, (ad.add (i.toNat * 2)).off + 1, none⟩ = some (.string (rd_T49 xs i).f1) := by
  obtain ⟨ad, c, e, _, hK, hc0⟩ := Kd.C_get h z49 i h0 h1
  have hc : ∀ j u, c[j]? = some u → w.cell? (ad.add (i.toNat * 2 + j)) = some u := hc0
  obtain rfl := k49_open hK
  exact ⟨ad, e, hc 0 _ rfl, by rw [← add_field _ _ 1 (by omega)]; exact hc 1 _ rfl⟩
end Go.Proofs.YtcpdbobkpbmjiaaDoor.P
