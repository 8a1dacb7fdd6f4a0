/- Part 1 of what the law FnExactMutationBytes stands on; the last part ends with the law's row. No condition of mine. -/
import Derived.Test.YtbjefkeogbophaaMFnExactMutationBytes0
import Derived.Lib.ConvBytes
import Derived.Laws.AppendOwn
import Derived.ChangeArms
import Derived.DataReads
import Derived.SizedLaws
import Derived.Deep.Slices
import Derived.Lib.SlBytesRow
import Derived.Test.YtbjefkeogbophaaProg
import Derived.Below
import Derived.Deep.Draws
import Derived.Deep.AppendLies
import Derived.Maps.AppendAt
import Derived.OwnWalk
import Derived.Laws.BytesArg
import Derived.Laws.MakeOwn
import Derived.Laws.OwnMore
import Derived.Deep.OwnRows
import Derived.Tactics
import Derived.Laws.Slices
import Derived.WalkKit
import Derived.KernelRfl
import Derived.RowKit3
import Derived.Deep.LoopGhost
import Derived.Deep.QuietTactic
import Derived.BigQuiet
import Derived.WideLaws
import Derived.Deep.DeepCutAuto
import Derived.Deep.CutBlock
import Derived.Deep.RegionHeld3
import Derived.Laws.Rows
import Derived.Lib.AppendStr
import Derived.ArgAppend
import Derived.Laws.IdiomCopy
import Derived.OrdersHeld
import Derived.Laws.BitsLemmas
import Derived.RowKit
namespace Go.Proofs.YtbjefkeogbophaaW.PrintWords
open Go.RowKit
theorem conv_block (w : World) (e : TypeId) (s : ByteArray) : (Lib.bytesWorld w e s).heap.size = w.heap.size + 1 := Lib.bytesWorld_size w e s
theorem conv_below (w : World) (e : TypeId) (s : ByteArray) : Below w.heap.size w (Lib.bytesWorld w e s) :=
  ⟨rfl, rfl, rfl, by rw [conv_block]; omega, fun k hk => Lib.bytesWorld_at_old w e s k hk⟩
theorem conv_C (w W : World) (e : TypeId) (s : ByteArray) (hs : s.size ≤ 9223372036854775807) (hW : W.heap[w.heap.size]? = (Lib.bytesWorld w e s).heap[w.heap.size]?) :
    (Kd.int .u8).C W (some ⟨w.heap.size, 0, none⟩) (bytesOf s).length (bytesOf s) := by
  refine ⟨rfl, by simpa [bytesOf] using hs, fun hn => ⟨⟨w.heap.size, 0, none⟩, rfl, fun j p hj => ⟨[.int .u8 p], rfl, rfl, fun i u hu => ?_⟩⟩⟩
  have hjl : j < s.size := by simpa [bytesOf] using (List.getElem?_eq_some_iff.1 hj).1
  cases i with
  | succ i => simp at hu
  | zero =>
    have hu' : Value.int .u8 p = u := by simpa using hu
    subst hu'
    have hp : p = ((s.data.toList.getD j 0).toNat : Int) := by
      simp only [bytesOf, List.getElem?_map, Option.map_eq_some_iff] at hj
      obtain ⟨b, hb, rfl⟩ := hj
      rw [List.getD_eq_getElem?_getD, hb]
      rfl
    have hc := Lib.bytesWorld_cell w e s j hjl
    have ha : (⟨w.heap.size, 0, none⟩ : Addr).add (j * (Kd.int .u8).sz + 0) = ⟨w.heap.size, j, none⟩ := by
      show (⟨w.heap.size, 0, none⟩ : Addr).add (j * 1 + 0) = _
      unfold Addr.add
      split <;> simp_all
    rw [ha, hp, ← hc]
    exact World.cell?_of_block hW
namespace Kd
section
variable {P : Program} {ops : Array Oper} {rest : List Oper} {o : Oper} {a : Act} {Q : Exit → Act → World → Prop}
theorem V_conv {w0 W : World} (base : Nat) (hgd : o.guard = none) {N' : Tmp} (_hd : o.dst = some N') (src dst e : TypeId) (x : Operand) (ho : o.op = .convert src dst x) (s : ByteArray) (hx : a.eval x = .string s)
    (hsrc : P.underlying src = some .string) (hdst : P.underlying dst = some (.slice e)) (he : P.underlying e = some (.int .u8)) (hl : s.size ≤ 9223372036854775807) (HB : Below base w0 W) (hbase : base ≤ W.heap.size)
    (h : ∀ v1 w1, Kd.V (Kd.int .u8) e w1 base (fun k_ => W.heap.size ≤ k_) v1 (bytesOf s) → Below base w0 w1 → W.grownBy w1 none → (∃ b, v1.ownBlock = some b ∧ W.heap.size ≤ b) → wpList P ops Q rest (a.put o.dst v1) w1) : wpList P ops Q (o :: rest) a W := by
  have hr := Lib.run_convert_string_bytes (P := P) W src dst e s hsrc hdst he
  have hb := conv_below W e s
  refine event_run hgd (v := .slice (some ⟨W.heap.size, 0, none⟩) s.size (grownCap W s.size 0 e)) (w1 := Lib.bytesWorld W e s) (by simp [execOp, ho, hx, hr]) ?_
  have hlen : s.size = (bytesOf s).length := by simp [bytesOf]
  refine h _ _ ⟨some ⟨W.heap.size, 0, none⟩, grownCap W s.size 0 e, by rw [← hlen], by rw [← hlen]; exact grownCap_ge _ _ _ _, ?_⟩ ?_ (grown_of_below hb none) ⟨W.heap.size, by simp [Value.ownBlock], Nat.le_refl _⟩
  · intro W' hW'
    exact conv_C W W' e s hl (hW' _ (Nat.le_refl _) (by rw [conv_block]; omega))
  · exact HB.trans ⟨hb.os, hb.tape, hb.output, hb.size, fun k hk => hb.block k (by omega)⟩
end
end Kd
end Go.Proofs.YtbjefkeogbophaaW.PrintWords
namespace Go.Proofs.YtbjefkeogbophaaW.PrintWords
open Go.RowKit
section
variable {P : Program} {ops : Array Oper} {o : Oper} {a : Act} {Q : Exit → Act → World → Prop} {Kc : Act → World → Prop}
theorem print_append_str_step {w0 W : World} (base : Nat) (hw : Region.wanted o (yielded ops a.tmps) = true) (s x : Operand) (t u e : TypeId)
    (ho : o.op = .call { callee := .builtin .append, args := #[s, x], argTypes := #[t, u] })
    (ht : P.underlying t = some (.slice e)) (hu : P.underlying u = some .string) (hinfo : (P.info? e).map (fun i => (i.zero, i.size, i.bytes)) = some (some (.int .u8 0), 1, 1))
    (v : Value) (xs : List Int) (y : ByteArray) (hs : a.eval s = v) (hx : a.eval x = .string y)
    (HO : W.ownsRow base e 1 v xs.length (nums .u8 xs)) (HB : Below base w0 W) (hbase : base ≤ W.heap.size) (hl : xs.length + y.size ≤ 140737488355328)
    (h : ∀ v1 w1, w1.ownsRow base e 1 v1 (xs ++ bytesOf y).length (nums .u8 (xs ++ bytesOf y)) → Below base w0 w1 → W.grownBy w1 v.ownBlock → Kc (a.put o.dst v1) w1) :
    if Region.wanted o (yielded ops a.tmps) = true then Oper.wp P o a W Kc Q else Kc (a.put o.dst undef) W := by
  obtain ⟨i0, hi, hzz⟩ := Option.map_eq_some_iff.1 hinfo
  simp only [Prod.mk.injEq] at hzz
  obtain ⟨hz0, hz1, hz2⟩ := hzz
  obtain ⟨v1, w1, hr, h2, h3, h4⟩ := Lib.run_append_own_string (P := P) W base t u o.type e i0 ht hu hi hz0 hz1 hz2 v xs.length (nums .u8 xs) HO y (by simp only [maxLen]; omega) hl hbase
  have hl2 : (xs ++ bytesOf y).length = xs.length + y.size := by rw [List.length_append, bytesOf_length]
  have hc : nums .u8 (xs ++ bytesOf y) = nums .u8 xs ++ Lib.strCells y := by
    rw [nums_append]
    congr 1
    simp [nums, bytesOf, Lib.strCells]
  rw [if_pos hw]
  unfold Oper.wp execOp
  simp only [ho, resolve, invoke, builtin, Sem.run_bind, Sem.run_pure, Result.andThen_ok, List.map_toArray, List.map_cons, List.map_nil, hs, hx, hr]
  exact h v1 w1 (by rw [hl2, hc]; exact h2) (HB.grown h3 hbase (own_base HO)) h3
end
end Go.Proofs.YtbjefkeogbophaaW.PrintWords
namespace Go.Proofs.YtbjefkeogbophaaW.PrintLast
end Go.Proofs.YtbjefkeogbophaaW.PrintLast
namespace Go.Proofs.YtbjefkeogbophaaW.PrintWords
open Go.RowKit
namespace Kd
def Z {α : Type} (d : Kd α) (e : Nat) (w : World) (base : Nat) (v : Value) (xs : List α) : Prop :=
  ∃ (enc : α → Value) (g cap : Nat) (cur : Array Value) (fz : Nat × Nat), (∀ W x, d.K W x [enc x]) ∧ d.sz = 1 ∧ v = .slice (some ⟨g, 0, none⟩) xs.length cap ∧ base ≤ g ∧
    w.heap[g]? = some (.cells cur e fz) ∧ xs.length ≤ cap ∧ xs.length ≤ 9223372036854775807 ∧ xs.length ≤ fz.1 ∧ cur.toList.take xs.length = xs.map enc
def G {α : Type} (d : Kd α) (e : Nat) (w : World) (base : Nat) (ok : Nat → Prop) (v : Value) (xs : List α) : Prop := (∀ k, v.ownBlock = some k → ok k) ∧ (d.R e w base ok v xs ∨ Z d e w base v xs)
theorem z_lt {w : World} {k : Nat} {o : Obj} (h : w.heap[k]? = some o) : k < w.heap.size := by
  rcases Nat.lt_or_ge k w.heap.size with h' | h'
  · exact h'
  · rw [Array.getElem?_eq_none h'] at h; cases h
section
variable {α : Type} {d : Kd α} {e e' : Nat} {w w1 W W2 : World} {base b : Nat} {ok ok' ok1 : Nat → Prop} {v u : Value} {xs : List α} {S : Nat → Prop}
theorem G_of_R (h : d.R e w base ok v xs) : d.G e w base ok v xs := ⟨h.1, .inl h⟩
theorem R_of_G (h : d.G e w base ok v xs) (hs : d.sz ≠ 1) : d.R e w base ok v xs := h.2.resolve_right fun ⟨_, _, _, _, _, _, h1, _⟩ => hs h1
theorem Z_move (h : Z d e w base v xs) (hm : ∀ k, v.ownBlock = some k → w1.heap[k]? = w.heap[k]?) : Z d e w1 base v xs := by
  obtain ⟨enc, g, cap, cur, fz, h1, h2, rfl, h4, h5, r⟩ := h
  exact ⟨enc, g, cap, cur, fz, h1, h2, rfl, h4, (hm g (by simp [Value.ownBlock])).trans h5, r⟩
theorem Z_typed (h : Z d e w base v xs) : ∀ k, v.ownBlock = some k → ∃ cells fz, w.heap[k]? = some (.cells cells e fz) := by
  obtain ⟨enc, g, cap, cur, fz, h1, h2, rfl, h4, h5, r⟩ := h
  intro k hk
  have : g = k := by simpa [Value.ownBlock] using hk
  subst this
  exact ⟨cur, fz, h5⟩
theorem Z_base (h : Z d e w base v xs) : ∀ k, v.ownBlock = some k → base ≤ k := by
  obtain ⟨enc, g, cap, cur, fz, h1, h2, rfl, h4, h5, r⟩ := h
  intro k hk
  have : g = k := by simpa [Value.ownBlock] using hk
  subst this
  exact h4
theorem G_typed (h : d.G e w base ok v xs) : ∀ k, v.ownBlock = some k → ∃ cells fz, w.heap[k]? = some (.cells cells e fz) := by
  rcases h.2 with h | h
  · exact fun k hk => let ⟨c, hc⟩ := R_typed h k hk; ⟨c, _, hc⟩
  · exact Z_typed h
theorem G_lt (h : d.G e w base ok v xs) : ∀ k, v.ownBlock = some k → k < w.heap.size := fun k hk => let ⟨_, _, hc⟩ := G_typed h k hk; z_lt hc
theorem G_base (h : d.G e w base ok v xs) : ∀ k, v.ownBlock = some k → base ≤ k := h.2.elim R_base Z_base
theorem G_mono (h : d.G e w base ok v xs) (hok : ∀ k, ok k → ok' k) : d.G e w base ok' v xs := ⟨fun k hk => hok k (h.1 k hk), h.2.imp (fun h => R_mono h hok) id⟩
theorem G_step (h : d.G e w base ok v xs) (hm : ∀ k, ok k → k < w.heap.size → w1.heap[k]? = w.heap[k]?) : d.G e w1 base ok v xs :=
  ⟨h.1, h.2.imp (fun h => R_step h hm) (fun hz => Z_move hz fun k hk => hm k (h.1 k hk) (G_lt h k hk))⟩
theorem G_below (h : d.G e w base ok v xs) (hb : Below w.heap.size w w1) : d.G e w1 base ok v xs := G_step h (fun k _ hk => hb.block k hk)
theorem G_alloc (h : d.G e w base ok v xs) (o : Obj) : d.G e (w.alloc o) base ok v xs := G_below h (below_alloc (Below.refl _ _) o)
theorem G_drew (h : d.G e w base ok v xs) : d.G e w.drew base ok v xs := G_below h (below_drew (Below.refl _ _))
theorem G_drewN (h : d.G e w base ok v xs) (m : Nat) : d.G e (w.drewN m) base ok v xs := G_below h (pw_below_drewN (Below.refl _ _) m)
theorem G_far (h : d.G e w base ok v xs) {p : Addr} (hok : ∀ k, ok k → k ≠ p.block) (u : Value) : d.G e (w.setCell p u) base ok v xs := G_step h (fun k ho _ => Below.heap_setCell w p u k (hok k ho))
theorem G_lower {base' : Nat} (h : d.G e w base ok v xs) (hb : base' ≤ base) : d.G e w base' ok v xs := by
  refine ⟨h.1, h.2.imp (fun h => R_lower h hb) ?_⟩
  rintro ⟨enc, g, cap, cur, fz, h1, h2, rfl, h4, r⟩
  exact ⟨enc, g, cap, cur, fz, h1, h2, rfl, Nat.le_trans hb h4, r⟩
theorem Z_slice (h : Z d e w base v xs) : ∃ A c, v = .slice A xs.length c ∧ xs.length ≤ c ∧ d.C w A xs.length xs := by
  obtain ⟨enc, g, cap, cur, fz, h1, h2, rfl, h4, h5, h6, h7, h8, h9⟩ := h
  refine ⟨_, _, rfl, h6, rfl, h7, fun _ => ⟨_, rfl, fun j p hj => ⟨[enc p], by simp [h2], h1 w p, fun i x hi => ?_⟩⟩⟩
  cases i with
  | succ i => simp at hi
  | zero =>
    have hx : enc p = x := by simpa using hi
    subst hx
    have hjl : j < xs.length := (List.getElem?_eq_some_iff.1 hj).1
    have hc : cur.toList[j]? = some (enc p) := by
      have : (cur.toList.take xs.length)[j]? = some (enc p) := by rw [h9, List.getElem?_map, hj]; rfl
      rwa [List.getElem?_take_of_lt hjl] at this
    have ha : (⟨g, 0, none⟩ : Addr).add (j * d.sz + 0) = ⟨g, j, none⟩ := by
      rw [h2]
      unfold Addr.add
      split <;> simp_all
    rw [ha]
    simp only [World.cell?, h5]
    simpa using hc
theorem G_reads (h : d.G e w base ok v xs) : ∃ A c, v = .slice A xs.length c ∧ xs.length ≤ c ∧ d.C w A xs.length xs := h.2.elim R_reads Z_slice
theorem G_slice (h : d.G e w base ok v xs) : ∃ A c, v = .slice A xs.length c := by
  obtain ⟨A, c, he, _⟩ := G_reads h
  exact ⟨A, c, he⟩
theorem G_reads' {A : Option Addr} {n c : Nat} (h : d.G e w base ok (.slice A n c) xs) : n = xs.length ∧ n ≤ c ∧ d.C w A xs.length xs := by
  obtain ⟨A', c', he, hl, hr⟩ := G_reads h
  injection he with h1 h2 h3
  subst h1
  exact ⟨h2, by omega, hr⟩
theorem G_bound (h : d.G e w base ok v xs) : d.G e w base (fun k => ok k ∧ base ≤ k ∧ k < w.heap.size ∧ ∃ q, q ∈ e :: d.E ∧ ∃ cells fz, w.heap[k]? = some (.cells cells q fz)) v xs := by
  have hf : ∀ k, v.ownBlock = some k → ok k ∧ base ≤ k ∧ k < w.heap.size ∧ ∃ q, q ∈ e :: d.E ∧ ∃ cells fz, w.heap[k]? = some (.cells cells q fz) := fun k hk => ⟨h.1 k hk, G_base h k hk, G_lt h k hk, e, List.mem_cons_self, G_typed h k hk⟩
  refine ⟨hf, h.2.imp (fun hr => R_mono (R_bound hr) (fun k ⟨h1, h2, h3, q, hq, c, hc⟩ => ⟨h1, h2, h3, q, hq, c, _, hc⟩)) id⟩
theorem G_elder' (hu : d.G e W base ok u xs) (hbase : ∀ k, v.ownBlock = some k → W.heap.size ≤ k) (hb : Below W.heap.size W w1) : d.G e w1 base (fun k => ok k ∧ some k ≠ v.ownBlock) u xs :=
  G_mono (G_step (G_bound hu) (fun k _ hk => hb.block k hk)) (fun k hk => ⟨hk.1, fun he => by have := hbase k he.symm; have := hk.2.2.1; omega⟩)
theorem G_new' (h : d.G e w1 W.heap.size ok v xs) (hlt : ∀ k, u.ownBlock = some k → k < W.heap.size) : d.G e w1 W.heap.size (fun k => ok k ∧ some k ≠ u.ownBlock) v xs :=
  G_mono (G_bound h) (fun k hk => ⟨hk.1, fun he => by have := hlt k he.symm; have := hk.2.1; omega⟩)
theorem G_tight (hE : d.E = []) (h : d.G e w base ok v xs) : d.G e w base (fun k => some k = v.ownBlock) v xs := ⟨fun _ hk => hk.symm, h.2.imp (fun h => R_tight hE h) id⟩
theorem G_reok (hE : d.E = []) (h : d.G e W base ok1 v xs) (hok : ∀ k, v.ownBlock = some k → ok k) : d.G e W base ok v xs := G_mono (G_tight hE h) (fun k hk => hok k hk.symm)
theorem G_types (h : d.G e w base ok v xs) {g t : Nat} {cells : Array Value} (hb : w.heap[g]? = some (.cells cells t (0, 0))) (ht : ∀ q, q ∈ e :: d.E → q ≠ t) : d.G e w base (fun k => ok k ∧ k ≠ g) v xs :=
  G_mono (G_bound h) (fun k hk => ⟨hk.1, by
    obtain ⟨_, _, _, q, hq, cells', fz, hc⟩ := hk
    rintro rfl
    rw [hc] at hb
    injection hb with hb
    injection hb with _ hb
    exact ht q hq hb⟩)
theorem G_ne (h : d.G e w base ok v xs) {g t : Nat} {cells : Array Value} (hb : w.heap[g]? = some (.cells cells t (0, 0))) (ht : e ≠ t) : some g ≠ v.ownBlock := by
  intro he
  obtain ⟨c, fz, hc⟩ := G_typed h g he.symm
  rw [hc] at hb
  injection hb with hb
  injection hb with _ hb
  exact ht hb
theorem G_apart' (h : d.G e W base ok u xs) (hty : ∀ k, v.ownBlock = some k → ∃ cells fz, W.heap[k]? = some (.cells cells e' fz)) (ht : ∀ q, q ∈ e :: d.E → q ≠ e') : d.G e W base (fun k => ok k ∧ some k ≠ v.ownBlock) u xs := by
  refine G_mono (G_bound h) (fun k hk => ⟨hk.1, fun he => ?_⟩)
  obtain ⟨_, _, _, q, hq, cells, fz, hc⟩ := hk
  obtain ⟨cells', fz', hc'⟩ := hty k he.symm
  rw [hc] at hc'
  injection hc' with hc'
  injection hc' with _ hc'
  exact ht q hq hc'
theorem G_keptB (h : d.G e W base ok v xs) (hk : Kept W W2 S) (hne : ∀ k, ok k → ¬ S k) : d.G e W2 base (fun k => ok k ∧ (¬ S k ∧ k < W.heap.size)) v xs :=
  G_mono (G_step (G_bound h) (fun k ho hlt => hk.2 k hlt (hne k ho.1))) (fun k hk => ⟨hk.1, hne k hk.1, hk.2.2.1⟩)
theorem G_form (h : d.G e w base ok v xs) (hp : 0 < xs.length) : ∃ g cap, v = .slice (some ⟨g, 0, none⟩) xs.length cap ∧ base ≤ g ∧ g < w.heap.size ∧ ∃ cells fz, w.heap[g]? = some (.cells cells e fz) := by
  rcases h.2 with h | h
  · obtain ⟨g, cap, h1, h2, h3, c, h4⟩ := R_form h hp
    exact ⟨g, cap, h1, h2, h3, c, _, h4⟩
  · obtain ⟨enc, g, cap, cur, fz, h1, h2, rfl, h4, h5, r⟩ := h
    exact ⟨g, cap, rfl, h4, z_lt h5, cur, fz, h5⟩
end
section
variable {e base g n cap : Nat} {ok : Nat → Prop} {W : World} {xs : List Int} {k : IntKind}
theorem Z_u8 (h : Z (Kd.int k) e W base (.slice (some ⟨g, 0, none⟩) n cap) xs) : ∃ (cur : Array Value) (fz : Nat × Nat), n = xs.length ∧ base ≤ g ∧ W.heap[g]? = some (.cells cur e fz) ∧ xs.length ≤ cap ∧ xs.length ≤ 9223372036854775807 ∧ xs.length ≤ fz.1 ∧ cur.toList.take xs.length = xs.map (Value.int k) := by
  obtain ⟨enc, g', cap', cur, fz, h1, h2, h3, h4, h5, h6, h7, h8, h9⟩ := h
  injection h3 with h3 h3a h3b
  injection h3 with h3
  injection h3 with h3
  subst h3 h3b
  have henc : ∀ x, enc x = Value.int k x := fun x => by
    have : [enc x] = [Value.int k x] := h1 W x
    simpa using this
  exact ⟨cur, fz, h3a, h4, h5, h6, h7, h8, by rw [h9]; congr 1; funext x; exact henc x⟩
theorem G_celln (d : Int) (h : (Kd.int k).G e W base ok (.slice (some ⟨g, 0, none⟩) n cap) xs) (i : Int) (h0 : 0 ≤ i) (hi : i < n) : W.cell? ⟨g, i.toNat, none⟩ = some (.int k (rdOf d xs i)) ∧ W.frozen? ⟨g, i.toNat, none⟩ = false := by
  rcases h.2 with h | h
  · exact R_celln (h1 := fun _ => rfl) d h i h0 hi
  · obtain ⟨cur, fz, rfl, h4, h5, h6, h7, h8, h9⟩ := Z_u8 h
    have hil : i.toNat < xs.length := by omega
    have hc : cur.toList[i.toNat]? = some (.int k (rdOf d xs i)) := by
      have : (cur.toList.take xs.length)[i.toNat]? = some (.int k (rdOf d xs i)) := by
        rw [h9, List.getElem?_map, List.getElem?_eq_getElem hil]
        simp [rdOf, List.getD_eq_getElem?_getD, List.getElem?_eq_getElem hil]
      rwa [List.getElem?_take_of_lt hil] at this
    refine ⟨?_, ?_⟩
    · simp only [World.cell?, h5]
      simpa using hc
    · simp only [World.frozen?, h5]
      simp
      omega
theorem G_putg (h : (Kd.int k).G e W base ok (.slice (some ⟨g, 0, none⟩) n cap) xs) (i x : Int) : (Kd.int k).G e (W.setCell ⟨g, i.toNat, none⟩ (.int k x)) base ok (.slice (some ⟨g, 0, none⟩) n cap) (xs.set i.toNat x) ∧ W.grownBy (W.setCell ⟨g, i.toNat, none⟩ (.int k x)) (some g) := by
  rcases h with ⟨h0, h | h⟩
  · have := R_putg (h1 := fun _ => rfl) h i x
    exact ⟨G_of_R this.1, this.2⟩
  · obtain ⟨cur, fz, rfl, h4, h5, h6, h7, h8, h9⟩ := Z_u8 h
    have hs : (W.setCell ⟨g, i.toNat, none⟩ (.int k x)).heap[g]? = some (.cells (cur.setIfInBounds i.toNat (.int k x)) e fz) := by
      unfold World.setCell
      simp [Array.getElem?_modify, h5]
    refine ⟨⟨h0, .inr ⟨Value.int k, g, cap, _, fz, fun _ _ => rfl, rfl, by simp, h4, hs, by simpa using h6, by simpa using h7, by simpa using h8, ?_⟩⟩, ?_⟩
    · rw [Array.toList_setIfInBounds, List.length_set, List.take_set, h9, List.map_set]
    · exact ⟨rfl, rfl, rfl, by simp [World.setCell], fun j _ hne => Below.heap_setCell W ⟨g, i.toNat, none⟩ _ j (fun e_ => hne (congrArg some e_))⟩
end
section
variable {P : Program} {ops : Array Oper} {rest : List Oper} {o : Oper} {a : Act} {Q : Exit → Act → World → Prop}
theorem G_conv {w0 W : World} (base : Nat) (hgd : o.guard = none) {N' : Tmp} (_hd : o.dst = some N') (src dst e : TypeId) (x : Operand) (ho : o.op = .convert src dst x) (s : ByteArray) (hx : a.eval x = .string s)
    (hsrc : P.underlying src = some .string) (hdst : P.underlying dst = some (.slice e)) (he : P.underlying e = some (.int .u8)) (hl : s.size ≤ 9223372036854775807) (HB : Below base w0 W) (hbase : base ≤ W.heap.size)
    (h : ∀ v1 w1, Kd.G (Kd.int .u8) e w1 base (fun k_ => W.heap.size ≤ k_) v1 (bytesOf s) → Below base w0 w1 → W.grownBy w1 none → (∃ b, v1.ownBlock = some b ∧ W.heap.size ≤ b) → wpList P ops Q rest (a.put o.dst v1) w1) : wpList P ops Q (o :: rest) a W := by
  have hr := Lib.run_convert_string_bytes (P := P) W src dst e s hsrc hdst he
  have hb := conv_below W e s
  refine event_run hgd (v := .slice (some ⟨W.heap.size, 0, none⟩) s.size (grownCap W s.size 0 e)) (w1 := Lib.bytesWorld W e s) (by simp [execOp, ho, hx, hr]) ?_
  have hlen : s.size = (bytesOf s).length := by simp [bytesOf]
  have hge := grownCap_ge W s.size 0 e
  refine h _ _ ⟨fun k hk => by have : W.heap.size = k := by simpa [Value.ownBlock] using hk
                               omega, .inr ⟨Value.int .u8, W.heap.size, grownCap W s.size 0 e, _, _, fun _ _ => rfl, rfl, by rw [hlen], hbase, Lib.bytesWorld_at_new W e s, by rw [← hlen]; simpa using hge, by rw [← hlen]; exact hl, ?_, ?_⟩⟩ ?_ (grown_of_below hb none) ⟨W.heap.size, by simp [Value.ownBlock], Nat.le_refl _⟩
  · rw [← hlen]
    show s.size ≤ (Lib.bytesCells W e s).size
    simp [Lib.bytesCells]
  · rw [← hlen]
    simp [Lib.bytesCells, bytesOf]
  · exact HB.trans ⟨hb.os, hb.tape, hb.output, hb.size, fun k hk => hb.block k (by omega)⟩
end
end Kd
end Go.Proofs.YtbjefkeogbophaaW.PrintWords
namespace Go.Proofs.YtbjefkeogbophaaW.PrintWords
def idxOf {α : Type} (p : α → Bool) (l : List α) : Int := match l.findIdx? p with | some i => (i : Int) | none => -1
theorem idxOf_hit {α : Type} (p : α → Bool) (l : List α) (d : α) (k : Nat) (hk : k < l.length) (hp : p (l.getD k d) = true) (hn : ∀ j, j < k → p (l.getD j d) = false) : idxOf p l = k := by
  have hg : ∀ j (h : j < l.length), l.getD j d = l[j] := fun j h => by simp [List.getD_eq_getElem?_getD, List.getElem?_eq_getElem h]
  have : l.findIdx? p = some k := by
    rw [List.findIdx?_eq_some_iff_getElem]
    refine ⟨hk, ?_, fun j hj => ?_⟩
    · rw [← hg k hk]; exact hp
    · have h1 := hn j hj
      rw [hg j (by omega)] at h1
      simp [h1]
  simp [idxOf, this]
theorem idxOf_miss {α : Type} (p : α → Bool) (l : List α) (d : α) (hn : ∀ j, j < l.length → p (l.getD j d) = false) : idxOf p l = -1 := by
  have : l.findIdx? p = none := by
    rw [List.findIdx?_eq_none_iff]
    intro x hx
    obtain ⟨j, hj, rfl⟩ := List.mem_iff_getElem.mp hx
    have h1 := hn j hj
    simpa [List.getD_eq_getElem?_getD, List.getElem?_eq_getElem hj] using h1
  simp [idxOf, this]
theorem idxOf_any {α : Type} (p : α → Bool) (l : List α) : decide (0 ≤ idxOf p l) = l.any p := by
  unfold idxOf
  cases h : l.findIdx? p with
  | none =>
    rw [List.findIdx?_eq_none_iff] at h
    have : l.any p = false := by simpa [List.any_eq_false] using h
    rw [this]; rfl
  | some i =>
    have hi := h
    rw [List.findIdx?_eq_some_iff_getElem] at hi
    obtain ⟨hl, hp, _⟩ := hi
    have : l.any p = true := List.any_eq_true.mpr ⟨l[i], List.getElem_mem hl, hp⟩
    rw [this]; exact decide_eq_true (Int.natCast_nonneg i)
theorem mem_getD {α : Type} (l : List α) (d : α) (i : Int) (h0 : 0 ≤ i) (h1 : i < (l.length : Int)) : l.getD i.toNat d ∈ l := by
  have h : i.toNat < l.length := by omega
  rw [List.getD_eq_getElem?_getD, List.getElem?_eq_getElem h]
  exact List.getElem_mem h
end Go.Proofs.YtbjefkeogbophaaW.PrintWords
namespace Go.Proofs.YtbjefkeogbophaaW.PrintWords
open Go.RowKit Go.ChangeShapes Go.WideShapes
section
variable {H : Type} {enc : TypeId × Value → H} {P : Program} {W : World}
def Tells (enc : TypeId × Value → H) (P : Program) (W : World) {α : Type} (t : TypeId) (d : Kd α) (S : α → Prop) : Prop :=
  ∀ (fuel : Nat) (cs : List Value) (x : DataW H × List MemPlace), DataW.trod enc P W 0 (fun _ => true) true fuel t cs = some x →
    (∀ n ∈ x.1.weights P t, n ≤ reachBytes) → ∃ y : α, d.K W y cs ∧ S y
theorem Tells.int {t : TypeId} {k : IntKind} (h : P.underlying t = some (.int k)) : Tells enc P W t (Kd.int k) (fun n => (Lit.int k n).wf = true) := by
  intro fuel cs x hx _
  obtain ⟨n, rfl, _, hw⟩ := DataW.trod_int h hx
  exact ⟨n, rfl, hw⟩
theorem Tells.bool {t : TypeId} (h : P.underlying t = some .bool) : Tells enc P W t Kd.bool (fun _ => True) := by
  intro fuel cs x hx _
  obtain ⟨b, rfl, _⟩ := DataW.trod_bool h hx
  exact ⟨b, rfl, trivial⟩
theorem Tells.string {t : TypeId} (h : P.underlying t = some .string) : Tells enc P W t Kd.string (fun s => s.size ≤ 140737488351232) := by
  intro fuel cs x hx hw
  obtain ⟨s, rfl, rfl, _⟩ := DataW.trod_string h hx
  refine ⟨s, rfl, ?_⟩
  have h1 := hw s.data.toList.length (by simp [DataW.weights])
  have h2 : reachBytes = 140737488351232 := by decide
  rw [h2] at h1
  simpa using h1
theorem weightsAll_mem {e : TypeId} : ∀ {l : List (DataW H)} {i : Nat} {z : DataW H}, l[i]? = some z → ∀ n ∈ z.weights P e, n ∈ DataW.weightsAll P e l
  | a :: l, 0, z, hz, n, hn => by
    simp only [List.getElem?_cons_zero, Option.some.injEq] at hz
    subst hz
    simp only [DataW.weightsAll, List.mem_append]
    exact Or.inl hn
  | a :: l, i + 1, z, hz, n, hn => by
    simp only [List.getElem?_cons_succ] at hz
    simp only [DataW.weightsAll, List.mem_append]
    exact Or.inr (weightsAll_mem hz n hn)
  | [], _, _, hz, _, _ => by simp at hz
theorem list_of {α : Type} {Q : Nat → α → Prop} (n : Nat) (h : ∀ i, i < n → ∃ y, Q i y) : ∃ l : List α, l.length = n ∧ ∀ i y, l[i]? = some y → Q i y := by
  induction n with
  | zero => exact ⟨[], rfl, fun i y hy => by simp at hy⟩
  | succ n ih =>
    obtain ⟨l, hl, hq⟩ := ih (fun i hi => h i (by omega))
    obtain ⟨y, hy⟩ := h n (by omega)
    refine ⟨l ++ [y], by simp [hl], fun i z hz => ?_⟩
    rcases Nat.lt_or_ge i l.length with hi | hi
    · rw [List.getElem?_append_left hi] at hz
      exact hq i z hz
    · have hin : i = n := by
        have := (List.getElem?_eq_some_iff.1 hz).1
        simp [hl] at this
        omega
      subst hin
      rw [← hl] at hz
      have : y = z := by simpa using hz
      subst this
      exact hy
theorem Tells.slice {α : Type} {t e : TypeId} {d : Kd α} {S : α → Prop} (h : P.underlying t = some (.slice e)) (hsz : P.cellsOf e = d.sz) {b : Nat} (hbt : P.bytesOf e = b) (he : Tells enc P W e d S) :
    Tells enc P W t (Kd.slice e d) (fun l => l.length ≤ maxLen ∧ l.length * b ≤ 140737488351232 ∧ ∀ y ∈ l, S y) := by
  intro fuel cs x hx hw
  rcases DataW.trod_slice h hx with ⟨rfl, rfl⟩ | ⟨a, len, cap, elems, rest, n, rfl, rfl, rfl, hb, hl, hm, hlen, hel, _, _⟩
  · exact ⟨[], ⟨none, 0, rfl, Nat.le_refl _, rfl, by simp, fun h => absurd h (by simp)⟩, by simp, by simp, by simp⟩
  · have hall : ∀ i, i < len → ∃ y : α, (∃ c, W.cells? 0 (a.add (i * P.cellsOf e)) (P.cellsOf e) = some c ∧ d.K W y c) ∧ S y := by
      intro i hi
      have h1 := hel i hi
      obtain ⟨z, hz⟩ : ∃ z, elems[i]? = some z := ⟨elems[i]'(by omega), List.getElem?_eq_getElem (by omega)⟩
      rw [hz] at h1
      obtain ⟨c, hc, ht⟩ := Option.bind_eq_some_iff.1 h1
      obtain ⟨y, hy, hs⟩ := he n c z ht (fun m hm => hw m (by
        simp only [DataW.weights, h, List.mem_cons, List.mem_append]
        exact Or.inr (Or.inl (weightsAll_mem (i := i) (z := z.1) (by simp [hz]) m hm))))
      exact ⟨y, ⟨c, hc, hy⟩, hs⟩
    obtain ⟨l, hll, hq⟩ := list_of len hall
    have hmax : len ≤ 9223372036854775807 := Nat.le_trans hl (Nat.le_trans hm (by decide))
    refine ⟨l, ⟨some a, cap, by rw [hll], by rw [hll]; exact hl, rfl, by rw [hll]; exact hmax, fun _ => ⟨a, rfl, fun j p hj => ?_⟩⟩, by rw [hll]; exact Nat.le_trans hl hm, ?_, fun y hy => ?_⟩
    · obtain ⟨⟨c, hc, hk⟩, _⟩ := hq j p hj
      refine ⟨c, d.K_len hk, hk, fun i u hu => ?_⟩
      obtain ⟨_, hcl, hat⟩ := World.cells?_some hc
      have hi : i < P.cellsOf e := by rw [← hcl]; exact (List.getElem?_eq_some_iff.1 hu).1
      rw [← hsz, ← Go.Deep.add_add, hat i hi, hu]
    · have h1 := hw ((elems.map (·.1)).length + (rest.map (·.1)).length |> (· * P.bytesOf e)) (by simp [DataW.weights, h])
      have h2 : reachBytes = 140737488351232 := by decide
      rw [h2, hbt] at h1
      simp only [List.length_map] at h1
      rw [hll, ← hlen]
      exact Nat.le_trans (Nat.mul_le_mul_right _ (Nat.le_add_right _ _)) h1
    · obtain ⟨i, hi⟩ := List.getElem?_of_mem hy
      exact (hq i y hi).2
def TellsF (enc : TypeId × Value → H) (P : Program) (W : World) {α : Type} (fs : List Field) (off : Nat) (d : Kd α) (S : α → Prop) : Prop :=
  ∀ (n : Nat) (cs : List Value) (xs : List (DataW H × List MemPlace)), xs.length = fs.length →
    (∀ (i : Nat) (f : Field), fs[i]? = some f → DataW.trod enc P W 0 (fun _ => true) true n f.type ((cs.drop f.offset).take (P.cellsOf f.type)) = xs[i]?) →
    (∀ m ∈ DataW.weightsEach P (fs.map (·.type)) (xs.map (·.1)), m ≤ reachBytes) → ∃ y : α, d.K W y ((cs.drop off).take d.sz) ∧ S y
theorem TellsF.one {α : Type} {f : Field} {d : Kd α} {S : α → Prop} (hsz : P.cellsOf f.type = d.sz) (h : Tells enc P W f.type d S) : TellsF enc P W [f] f.offset d S := by
  intro n cs xs hl hx hw
  match xs, hl with
  | [x], _ =>
    have h1 := hx 0 f rfl
    rw [hsz] at h1
    exact h n _ x h1 (fun m hm => hw m (by simp [DataW.weightsEach, hm]))
theorem TellsF.cons {α β : Type} {f : Field} {fs : List Field} {off : Nat} {d : Kd α} {S : α → Prop} {d' : Kd β} {S' : β → Prop} (hsz : P.cellsOf f.type = d.sz) (h : Tells enc P W f.type d S) (hoff : off = f.offset + d.sz) (h' : TellsF enc P W fs off d' S') :
    TellsF enc P W (f :: fs) f.offset (Kd.pair d d') (fun y => S y.1 ∧ S' y.2) := by
  intro n cs xs hl hx hw
  match xs, hl with
  | x :: xs, hl =>
    have h1 := hx 0 f rfl
    rw [hsz] at h1
    obtain ⟨y, hy, hs⟩ := h n _ x h1 (fun m hm => hw m (by simp [DataW.weightsEach, hm]))
    obtain ⟨z, hz, hs'⟩ := h' n cs xs (by simpa using hl) (fun i g hg => hx (i + 1) g (by simpa using hg)) (fun m hm => hw m (by simp only [List.map_cons, DataW.weightsEach, List.mem_append]; exact Or.inr hm))
    refine ⟨(y, z), ⟨_, _, ?_, hy, hz⟩, hs, hs'⟩
    show (cs.drop f.offset).take (d.sz + d'.sz) = _
    rw [List.take_add, List.drop_drop, hoff]
theorem Tells.struct {α β : Type} {t : TypeId} {fs : Array Field} {d : Kd α} {S : α → Prop} {f : β → α} (g : α → β) (hfg : ∀ y, f (g y) = y) (h : P.underlying t = some (.struct fs)) (hsz : P.cellsOf t = d.sz) (hf : TellsF enc P W fs.toList 0 d S) :
    Tells enc P W t (Kd.iso d f) (fun x => S (f x)) := by
  intro fuel cs x hx hw
  obtain ⟨xs, n, _, rfl, hlen, hl, hg⟩ := DataW.trod_struct h hx
  obtain ⟨y, hy, hs⟩ := hf n cs xs (by simpa using hl) (fun i f' hf' => hg i f' (by simpa using hf')) (fun m hm => hw m (by simpa [DataW.weights, h] using hm))
  refine ⟨g y, ?_, by show S (f (g y)); rw [hfg]; exact hs⟩
  show d.K W (f (g y)) cs
  rw [hfg]
  have : (cs.drop 0).take d.sz = cs := by rw [List.drop_zero, ← hsz, ← hlen, List.take_length]
  rwa [this] at hy
theorem Tells.arg {α : Type} {t : TypeId} {d : Kd α} {S : α → Prop} (h : Tells enc P W t d S) {v : Value} {z : DataW H} {p : List MemPlace} (ht : DataW.Trod enc P W 0 (fun _ => true) true t v z p) {ts : List TypeId} {ds : List (DataW H)} {j : Nat}
    (hsz : (DataW.weightsEach P ts ds).all (· ≤ reachBytes) = true) (htj : ts[j]? = some t) (hdj : ds[j]? = some z) : ∃ y : α, d.K W y v.cells.toList ∧ S y := by
  obtain ⟨fuel, hf⟩ := ht
  exact h fuel _ _ hf (fun n hn => by
    have := List.all_eq_true.1 hsz n (DataW.weights_mem_each htj hdj n hn)
    simpa using this)
end
end Go.Proofs.YtbjefkeogbophaaW.PrintWords
namespace Go.Proofs.YtbjefkeogbophaaW.PrintWords
open Go.RowKit
structure RowB (w : World) (g : Nat) (l : List UInt8) : Prop where
  cell : ∀ j (h : j < l.length), w.cell? ⟨g, j, none⟩ = some (.int .u8 ((l[j]'h).toNat : Int))
  free : ∀ j, j < l.length → w.frozen? ⟨g, j, none⟩ = false
theorem setCell_at (w : World) (g j : Nat) (v : Value) {u : Value} (h : w.cell? ⟨g, j, none⟩ = some u) (i : Nat) : (w.setCell ⟨g, j, none⟩ v).cell? ⟨g, i, none⟩ = if i = j then some v else w.cell? ⟨g, i, none⟩ := by
  have hg := World.block_lt_of_cell? _ _ h
  simp only at hg
  unfold World.cell? at h ⊢
  simp only [World.setCell, Array.getElem?_modify] at h ⊢
  cases hb : w.heap[g]? with
  | none => rw [hb] at h; simp at h
  | some o =>
    rw [hb] at h
    cases o with
    | cells c e f =>
      simp only [Option.isSome_none, Bool.false_eq_true, if_false] at h ⊢
      simp only [if_true, Option.map_some]
      rw [Array.getElem?_setIfInBounds]
      have hj : j < c.size := (Array.getElem?_eq_some_iff.1 h).1
      by_cases e1 : i = j
      · subst e1; simp [hj]
      · have e2 : ¬ j = i := fun e => e1 e.symm
        simp [e1, e2]
    | _ => simp at h
theorem setCell_frozen (w : World) (g j : Nat) (v : Value) (i : Nat) : (w.setCell ⟨g, j, none⟩ v).frozen? ⟨g, i, none⟩ = w.frozen? ⟨g, i, none⟩ := by
  unfold World.frozen?
  simp only [World.setCell, Array.getElem?_modify]
  cases hb : w.heap[g]? with
  | none => simp
  | some o => cases o <;> simp
theorem RowB.set {w : World} {g : Nat} {l : List UInt8} (h : RowB w g l) (j : Nat) (hj : j < l.length) (b : UInt8) (v : Int) (hv : v = (b.toNat : Int)) : RowB (w.setCell ⟨g, j, none⟩ (.int .u8 v)) g (l.set j b) := by
  refine ⟨fun i hi => ?_, fun i hi => ?_⟩
  · rw [setCell_at w g j _ (h.cell j hj)]
    rw [List.length_set] at hi
    by_cases e : i = j
    · subst e; simp [hv]
    · rw [if_neg e, h.cell i hi, List.getElem_set_ne (fun x => e x.symm)]
  · rw [setCell_frozen]
    exact h.free i (by rwa [List.length_set] at hi)
theorem RowB.bytes {w : World} {g : Nat} {l : List UInt8} (h : RowB w g l) : Lib.Bytes w g 0 ⟨l.toArray⟩ := fun i hi => by
  have hi' : i < l.length := Nat.lt_of_lt_of_eq hi (show l.toArray.size = l.length from List.size_toArray)
  have := h.cell i hi'
  rw [Nat.zero_add, this]
  rfl
theorem RowB.conv (w : World) (e : TypeId) (s : ByteArray) : RowB (Lib.bytesWorld w e s) w.heap.size s.data.toList := by
  have hl : s.data.toList.length = s.size := by simp
  refine ⟨fun j hj => ?_, fun j hj => ?_⟩
  · rw [Lib.bytesWorld_cell w e s j (by omega), List.getD_eq_getElem?_getD, List.getElem?_eq_getElem hj]
    rfl
  · have hs : s.size ≤ (Lib.bytesCells w e s).size := by simp [Lib.bytesCells]
    simp only [World.frozen?, Lib.bytesWorld_at_new]
    simp
    omega
namespace Kd
end Kd
end Go.Proofs.YtbjefkeogbophaaW.PrintWords
namespace Go.Proofs.YtbjefkeogbophaaW.PrintWords
end Go.Proofs.YtbjefkeogbophaaW.PrintWords
namespace Go.Proofs.Ytbjefkeogbophaa.P
open Go.RowKit Go.Proofs.YtbjefkeogbophaaW.PrintWords Go.Proofs.YtbjefkeogbophaaW.PrintLast Go.Proofs.YtbjefkeogbophaaW.PrintMore
attribute [local go_sem] max2_int min2_int max_two min_two max_three min_three max_four min_four   -- for this text's walks alone
set_option linter.unusedVariables false
set_option linter.unusedSimpArgs false
def errW : Option Int → Value
  | none => .nilIface
  | some c => .iface 0 (.int .i64 c)
theorem errW_none : errW none = .nilIface := rfl
theorem errW_some (c : Int) : errW (some c) = .iface 0 (.int .i64 c) := rfl
theorem info5 : (Try.prog.info? 5).map (fun i => (i.zero, i.size, i.bytes)) = some (some (.int .u8 0), 1, 1) := by kernel_rfl
theorem info54 : (Try.prog.info? 54).map (fun i => (i.zero, i.size, i.bytes)) = some (some (.agg #[(.string ⟨#[]⟩), (.string ⟨#[]⟩)]), 2, 32) := by kernel_rfl
structure S60 where
  f0 : ByteArray
  f1 : ByteArray
def z60 : S60 := ⟨(⟨#[]⟩ : ByteArray), (⟨#[]⟩ : ByteArray)⟩
def k60 : Kd S60 := Kd.iso (Kd.pair Kd.string Kd.string) (fun x : S60 => (x.f0, x.f1))
theorem k60_open {w : World} {x : S60} {cs : List Value} (h : k60.K w x cs) : cs = [.string x.f0, .string x.f1] := by
  obtain ⟨_, _, rfl, rfl, rfl⟩ := h
  exact rfl
def rd_T60 (xs : List S60) (i : Int) : S60 := xs.getD i.toNat z60
theorem at_T60 {w : World} {A : Option Addr} {n : Nat} {xs : List S60} (h : Kd.C k60 w A n xs) (i : Int) (h0 : 0 ≤ i) (h1 : i < n) : ∃ ad , A = some ad ∧ w.cell? (ad.add (i.toNat * 2)) = some (.string (rd_T60 xs i).f0) ∧ w.cell? ⟨(ad.add (i.toNat * 2)).block, (ad.add (i.toNat * 2)).off + 1, none⟩ = some (.string (rd_T60 xs i).f1) := by
  obtain ⟨ad, c, e, _, hK, hc0⟩ := Kd.C_get h z60 i h0 h1
  have hc : ∀ j u, c[j]? = some u → w.cell? (ad.add (i.toNat * 2 + j)) = some u := hc0
  obtain rfl := k60_open hK
  exact ⟨ad, e, hc 0 _ rfl, by rw [← add_field _ _ 1 (by omega)]; exact hc 1 _ rfl⟩
structure S24 where
  f0 : Int
  f1 : Int
  f2 : Int
  f3 : Int
  f4 : ByteArray
  f5 : (List S60)
def k24 : Kd S24 := Kd.iso (Kd.pair (Kd.int .i64) (Kd.pair (Kd.int .i64) (Kd.pair (Kd.int .i64) (Kd.pair (Kd.int .i64) (Kd.pair Kd.string (Kd.slice 60 k60)))))) (fun x : S24 => (x.f0, x.f1, x.f2, x.f3, x.f4, x.f5))
theorem k24_open {w : World} {x : S24} {cs : List Value} (h : k24.K w x cs) : ∃ A5 c5, cs = [.int .i64 x.f0, .int .i64 x.f1, .int .i64 x.f2, .int .i64 x.f3, .string x.f4, .slice A5 x.f5.length c5] ∧ x.f5.length ≤ c5 ∧ k60.C w A5 x.f5.length x.f5 := by
  obtain ⟨_, _, rfl, rfl, ⟨_, _, rfl, rfl, ⟨_, _, rfl, rfl, ⟨_, _, rfl, rfl, ⟨_, _, rfl, rfl, ⟨A5, c5, rfl, l5, g5⟩⟩⟩⟩⟩⟩ := h
  exact ⟨A5, c5, rfl, l5, g5⟩
structure S54 where
  f0 : ByteArray
  f1 : ByteArray
def z54 : S54 := ⟨(⟨#[]⟩ : ByteArray), (⟨#[]⟩ : ByteArray)⟩
def k54 : Kd S54 := Kd.iso (Kd.pair Kd.string Kd.string) (fun x : S54 => (x.f0, x.f1))
theorem k54_open {w : World} {x : S54} {cs : List Value} (h : k54.K w x cs) : cs = [.string x.f0, .string x.f1] := by
  obtain ⟨_, _, rfl, rfl, rfl⟩ := h
  exact rfl
theorem k54_openM {w : World} {base : Nat} {ok : Nat → Prop} {x : S54} {cs : List Value} (h : k54.M w base ok x cs) : cs = [.string x.f0, .string x.f1] := by
  obtain ⟨_, _, rfl, rfl, rfl⟩ := h
  exact rfl
theorem k54_mkM (w : World) (base : Nat) (ok : Nat → Prop) (x : S54)  : k54.M w base ok x [.string x.f0, .string x.f1] := ⟨[.string x.f0], [.string x.f1], rfl, rfl, rfl⟩
def rd_T54 (xs : List S54) (i : Int) : S54 := xs.getD i.toNat z54
theorem at_T54 {w : World} {A : Option Addr} {n : Nat} {xs : List S54} (h : Kd.C k54 w A n xs) (i : Int) (h0 : 0 ≤ i) (h1 : i < n) : ∃ ad , A = some ad ∧ w.cell? (ad.add (i.toNat * 2)) = some (.string (rd_T54 xs i).f0) ∧ w.cell? ⟨(ad.add (i.toNat * 2)).block, (ad.add (i.toNat * 2)).off + 1, none⟩ = some (.string (rd_T54 xs i).f1) := by
  obtain ⟨ad, c, e, _, hK, hc0⟩ := Kd.C_get h z54 i h0 h1
  have hc : ∀ j u, c[j]? = some u → w.cell? (ad.add (i.toNat * 2 + j)) = some u := hc0
  obtain rfl := k54_open hK
  exact ⟨ad, e, hc 0 _ rfl, by rw [← add_field _ _ 1 (by omega)]; exact hc 1 _ rfl⟩
end Go.Proofs.Ytbjefkeogbophaa.P
