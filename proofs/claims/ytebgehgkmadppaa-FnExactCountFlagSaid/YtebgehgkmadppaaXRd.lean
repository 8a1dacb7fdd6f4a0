/- Words of mine: whatever reads as data of a type is of its kind (Kd), with its bounds: for the rows of laws over structs and slices of whatever. -/
import Derived.Test.YtebgehgkmadppaaWMore
import Derived.ChangeArms
import Derived.DataReads
import Derived.SizedLaws
import Derived.Deep.Slices
namespace Go.Proofs.YtebgehgkmadppaaW.PrintWords
open Go.RowKit Go.ChangeShapes Go.WideShapes
section
variable {H : Type} {enc : TypeId × Value → H} {P : Program} {W : World}
/-- Whatever reads as type t is of kind d, and meets S. -/
def Tells (enc : TypeId × Value → H) (P : Program) (W : World) {α : Type} (t : TypeId) (d : Kd α) (S : α → Prop) : Prop :=
  ∀ (fuel : Nat) (cs : List Value) (x : DataW H × List MemPlace), DataW.trod enc P W 0 (fun _ => true) true fuel t cs = some x →
    (∀ n ∈ x.1.weights P t, n ≤ reachBytes) → ∃ y : α, d.K W y cs ∧ S y
theorem Tells.int {t : TypeId} {k : IntKind} (h : P.underlying t = some (.int k)) : Tells enc P W t (Kd.int k) (fun n => (Lit.int k n).wf = true) := by
  intro fuel cs x hx _
  obtain ⟨n, rfl, _, hw⟩ := DataW.trod_int h hx
  exact ⟨n, rfl, hw⟩
theorem Tells.bool {t : TypeId} (h : P.underlying t = some .bool) : Tells enc P W t Kd.bool (fun _ => True) := by
  intro fuel cs x hx _
  obtain ⟨b, rfl, _⟩ := DataW.trod_bool h hx
  exact ⟨b, rfl, trivial⟩
theorem Tells.string {t : TypeId} (h : P.underlying t = some .string) : Tells enc P W t Kd.string (fun s => s.size ≤ 140737488351232) := by
  intro fuel cs x hx hw
  obtain ⟨s, rfl, rfl, _⟩ := DataW.trod_string h hx
  refine ⟨s, rfl, ?_⟩
  have h1 := hw s.data.toList.length (by simp [DataW.weights])
  have h2 : reachBytes = 140737488351232 := by decide
  rw [h2] at h1
  simpa using h1
theorem weightsAll_mem {e : TypeId} : ∀ {l : List (DataW H)} {i : Nat} {z : DataW H}, l[i]? = some z → ∀ n ∈ z.weights P e, n ∈ DataW.weightsAll P e l
  | a :: l, 0, z, hz, n, hn => by
    simp only [List.getElem?_cons_zero, Option.some.injEq] at hz
    subst hz
    simp only [DataW.weightsAll, List.mem_append]
    exact Or.inl hn
  | a :: l, i + 1, z, hz, n, hn => by
    simp only [List.getElem?_cons_succ] at hz
    simp only [DataW.weightsAll, List.mem_append]
    exact Or.inr (weightsAll_mem hz n hn)
  | [], _, _, hz, _, _ => by simp at hz
theorem list_of {α : Type} {Q : Nat → α → Prop} (n : Nat) (h : ∀ i, i < n → ∃ y, Q i y) : ∃ l : List α, l.length = n ∧ ∀ i y, l[i]? = some y → Q i y := by
  induction n with
  | zero => exact ⟨[], rfl, fun i y hy => by simp at hy⟩
  | succ n ih =>
    obtain ⟨l, hl, hq⟩ := ih (fun i hi => h i (by omega))
    obtain ⟨y, hy⟩ := h n (by omega)
    refine ⟨l ++ [y], by simp [hl], fun i z hz => ?_⟩
    rcases Nat.lt_or_ge i l.length with hi | hi
    · rw [List.getElem?_append_left hi] at hz
      exact hq i z hz
    · have hin : i = n := by
        have := (List.getElem?_eq_some_iff.1 hz).1
        simp [hl] at this
        omega
      subst hin
      rw [← hl] at hz
      have : y = z := by simpa using hz
      subst this
      exact hy
theorem Tells.slice {α : Type} {t e : TypeId} {d : Kd α} {S : α → Prop} (h : P.underlying t = some (.slice e)) (hsz : P.cellsOf e = d.sz) {b : Nat} (hbt : P.bytesOf e = b) (he : Tells enc P W e d S) :
    Tells enc P W t (Kd.slice e d) (fun l => l.length ≤ maxLen ∧ l.length * b ≤ 140737488351232 ∧ ∀ y ∈ l, S y) := by
  intro fuel cs x hx hw
  rcases DataW.trod_slice h hx with ⟨rfl, rfl⟩ | ⟨a, len, cap, elems, rest, n, rfl, rfl, rfl, hb, hl, hm, hlen, hel, _, _⟩
  · exact ⟨[], ⟨none, 0, rfl, Nat.le_refl _, rfl, by simp, fun h => absurd h (by simp)⟩, by simp, by simp, by simp⟩
  · have hall : ∀ i, i < len → ∃ y : α, (∃ c, W.cells? 0 (a.add (i * P.cellsOf e)) (P.cellsOf e) = some c ∧ d.K W y c) ∧ S y := by
      intro i hi
      have h1 := hel i hi
      obtain ⟨z, hz⟩ : ∃ z, elems[i]? = some z := ⟨elems[i]'(by omega), List.getElem?_eq_getElem (by omega)⟩
      rw [hz] at h1
      obtain ⟨c, hc, ht⟩ := Option.bind_eq_some_iff.1 h1
      obtain ⟨y, hy, hs⟩ := he n c z ht (fun m hm => hw m (by
        simp only [DataW.weights, h, List.mem_cons, List.mem_append]
        exact Or.inr (Or.inl (weightsAll_mem (i := i) (z := z.1) (by simp [hz]) m hm))))
      exact ⟨y, ⟨c, hc, hy⟩, hs⟩
    obtain ⟨l, hll, hq⟩ := list_of len hall
    have hmax : len ≤ 9223372036854775807 := Nat.le_trans hl (Nat.le_trans hm (by decide))
    refine ⟨l, ⟨some a, cap, by rw [hll], by rw [hll]; exact hl, rfl, by rw [hll]; exact hmax, fun _ => ⟨a, rfl, fun j p hj => ?_⟩⟩, by rw [hll]; exact Nat.le_trans hl hm, ?_, fun y hy => ?_⟩
    · obtain ⟨⟨c, hc, hk⟩, _⟩ := hq j p hj
      refine ⟨c, d.K_len hk, hk, fun i u hu => ?_⟩
      obtain ⟨_, hcl, hat⟩ := World.cells?_some hc
      have hi : i < P.cellsOf e := by rw [← hcl]; exact (List.getElem?_eq_some_iff.1 hu).1
      rw [← hsz, ← Go.Deep.add_add, hat i hi, hu]
    · have h1 := hw ((elems.map (·.1)).length + (rest.map (·.1)).length |> (· * P.bytesOf e)) (by simp [DataW.weights, h])
      have h2 : reachBytes = 140737488351232 := by decide
      rw [h2, hbt] at h1
      simp only [List.length_map] at h1
      rw [hll, ← hlen]
      exact Nat.le_trans (Nat.mul_le_mul_right _ (Nat.le_add_right _ _)) h1
    · obtain ⟨i, hi⟩ := List.getElem?_of_mem hy
      exact (hq i y hi).2
/-- The fields from offset 'off' on, in line. -/
def TellsF (enc : TypeId × Value → H) (P : Program) (W : World) {α : Type} (fs : List Field) (off : Nat) (d : Kd α) (S : α → Prop) : Prop :=
  ∀ (n : Nat) (cs : List Value) (xs : List (DataW H × List MemPlace)), xs.length = fs.length →
    (∀ (i : Nat) (f : Field), fs[i]? = some f → DataW.trod enc P W 0 (fun _ => true) true n f.type ((cs.drop f.offset).take (P.cellsOf f.type)) = xs[i]?) →
    (∀ m ∈ DataW.weightsEach P (fs.map (·.type)) (xs.map (·.1)), m ≤ reachBytes) → ∃ y : α, d.K W y ((cs.drop off).take d.sz) ∧ S y
theorem TellsF.one {α : Type} {f : Field} {d : Kd α} {S : α → Prop} (hsz : P.cellsOf f.type = d.sz) (h : Tells enc P W f.type d S) : TellsF enc P W [f] f.offset d S := by
  intro n cs xs hl hx hw
  match xs, hl with
  | [x], _ =>
    have h1 := hx 0 f rfl
    rw [hsz] at h1
    exact h n _ x h1 (fun m hm => hw m (by simp [DataW.weightsEach, hm]))
theorem TellsF.cons {α β : Type} {f : Field} {fs : List Field} {off : Nat} {d : Kd α} {S : α → Prop} {d' : Kd β} {S' : β → Prop} (hsz : P.cellsOf f.type = d.sz) (h : Tells enc P W f.type d S) (hoff : off = f.offset + d.sz) (h' : TellsF enc P W fs off d' S') :
    TellsF enc P W (f :: fs) f.offset (Kd.pair d d') (fun y => S y.1 ∧ S' y.2) := by
  intro n cs xs hl hx hw
  match xs, hl with
  | x :: xs, hl =>
    have h1 := hx 0 f rfl
    rw [hsz] at h1
    obtain ⟨y, hy, hs⟩ := h n _ x h1 (fun m hm => hw m (by simp [DataW.weightsEach, hm]))
    obtain ⟨z, hz, hs'⟩ := h' n cs xs (by simpa using hl) (fun i g hg => hx (i + 1) g (by simpa using hg)) (fun m hm => hw m (by simp only [List.map_cons, DataW.weightsEach, List.mem_append]; exact Or.inr hm))
    refine ⟨(y, z), ⟨_, _, ?_, hy, hz⟩, hs, hs'⟩
    show (cs.drop f.offset).take (d.sz + d'.sz) = _
    rw [List.take_add, List.drop_drop, hoff]
theorem Tells.struct {α β : Type} {t : TypeId} {fs : Array Field} {d : Kd α} {S : α → Prop} {f : β → α} (g : α → β) (hfg : ∀ y, f (g y) = y) (h : P.underlying t = some (.struct fs)) (hsz : P.cellsOf t = d.sz) (hf : TellsF enc P W fs.toList 0 d S) :
    Tells enc P W t (Kd.iso d f) (fun x => S (f x)) := by
  intro fuel cs x hx hw
  obtain ⟨xs, n, _, rfl, hlen, hl, hg⟩ := DataW.trod_struct h hx
  obtain ⟨y, hy, hs⟩ := hf n cs xs (by simpa using hl) (fun i f' hf' => hg i f' (by simpa using hf')) (fun m hm => hw m (by simpa [DataW.weights, h] using hm))
  refine ⟨g y, ?_, by show S (f (g y)); rw [hfg]; exact hs⟩
  show d.K W (f (g y)) cs
  rw [hfg]
  have : (cs.drop 0).take d.sz = cs := by rw [List.drop_zero, ← hsz, ← hlen, List.take_length]
  rwa [this] at hy
/-- An argument of a law: what it is, out of its reading and the row's reach. -/
theorem Tells.arg {α : Type} {t : TypeId} {d : Kd α} {S : α → Prop} (h : Tells enc P W t d S) {v : Value} {z : DataW H} {p : List MemPlace} (ht : DataW.Trod enc P W 0 (fun _ => true) true t v z p) {ts : List TypeId} {ds : List (DataW H)} {j : Nat}
    (hsz : (DataW.weightsEach P ts ds).all (· ≤ reachBytes) = true) (htj : ts[j]? = some t) (hdj : ds[j]? = some z) : ∃ y : α, d.K W y v.cells.toList ∧ S y := by
  obtain ⟨fuel, hf⟩ := ht
  exact h fuel _ _ hf (fun n hn => by
    have := List.all_eq_true.1 hsz n (DataW.weights_mem_each htj hdj n hn)
    simpa using this)
end
end Go.Proofs.YtebgehgkmadppaaW.PrintWords
