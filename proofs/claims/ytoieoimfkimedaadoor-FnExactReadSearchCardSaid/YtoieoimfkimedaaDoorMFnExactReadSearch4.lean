/- Part 4 of what the law FnExactReadSearch stands on; the last part ends with the law's row. No condition of mine. -/
import Derived.Test.YtoieoimfkimedaaDoorMFnExactReadSearch1
import Derived.Test.YtoieoimfkimedaaDoorMFnExactReadSearch2
import Derived.Test.YtoieoimfkimedaaDoorMFnExactReadSearch3
import Derived.Shelf.Strings.Count
import Derived.Shelf.Strings.Search3
namespace Go.Proofs.YtoieoimfkimedaaDoor.P
open Go.RowKit Go.Proofs.YtoieoimfkimedaaDoorW.PrintWords Go.Proofs.YtoieoimfkimedaaDoorW.PrintLast Go.Proofs.YtoieoimfkimedaaDoorW.PrintMore
attribute [local go_sem] max2_int min2_int max_two min_two max_three min_three max_four min_four   -- for this text's walks alone
set_option linter.unusedVariables false
set_option linter.unusedSimpArgs false

/-! ### spec_l11Search: function 13 -/
mutual
def spec_l11Search.l0 : Nat → List ByteArray → List (S37) → Int → Option ((List (S37)) × Bool)
 | 0, _, _, _ => none
 | k + 1, x0, x4, x5 => if x5 < (x0.length : Int) then ((some (([] : List (S49)) : List (S49))).bind fun y104 => (if 0 ≤ x5 then ((spec_l11Upper.f (rdOf ByteArray.empty x0 x5)).bind fun t109 => (if t109.toList = ([78, 79, 84] : List UInt8) then (if (wrap64 (x5 + 1)) = (x0.length : Int) then (some (x4, false)) else (spec_l11Search.j1 k x0 x4 (wrap64 (x5 + 1)) true (⟨#[]⟩ : ByteArray) (⟨#[]⟩ : ByteArray) y104)) else (spec_l11Search.j1 k x0 x4 x5 false (⟨#[]⟩ : ByteArray) (⟨#[]⟩ : ByteArray) y104))) else (none))) else (some (x4, decide ((x4.length : Int) > 0)))
def spec_l11Search.j1 : Nat → List ByteArray → List (S37) → Int → Bool → ByteArray → ByteArray → List (S49) → Option ((List (S37)) × Bool)
 | 0, _, _, _, _, _, _, _ => none
 | k + 1, x0, x4, x5, x108000, x108001, x108002, x108003 => if 0 ≤ x5 then (if x5 < (x0.length : Int) then ((spec_l11Upper.f (rdOf ByteArray.empty x0 x5)).bind fun t111 => ((spec_l11Bare.f k t111).bind fun t112 => (if t112 = true then (if (x4.length : Int) = 20 then (some (x4, false)) else (if x4.length < 2199023255552 then (spec_l11Search.l0 k x0 (x4 ++ [(⟨x108000, t111, x108002, x108003⟩ : S37)]) (wrap64 (x5 + 1))) else (none))) else (if t111.toList = ([83, 85, 66, 74, 69, 67, 84] : List UInt8) then (spec_l11Search.j2 k x0 x4 x5 t111 true x108000 x108001 x108002 x108003) else (if t111.toList = ([70, 82, 79, 77] : List UInt8) then (spec_l11Search.j2 k x0 x4 x5 t111 true x108000 x108001 x108002 x108003) else (spec_l11Search.j2 k x0 x4 x5 t111 (t111.toList == ([84, 69, 88, 84] : List UInt8)) x108000 x108001 x108002 x108003)))))) else (none)) else (none)
def spec_l11Search.j2 : Nat → List ByteArray → List (S37) → Int → ByteArray → Bool → Bool → ByteArray → ByteArray → List (S49) → Option ((List (S37)) × Bool)
 | 0, _, _, _, _, _, _, _, _, _ => none
 | k + 1, x0, x4, x5, x7, x68, x108000, x108001, x108002, x108003 => if x68 = true then (if (wrap64 (x5 + 1)) = (x0.length : Int) then (some (x4, false)) else (if 0 ≤ (wrap64 (x5 + 1)) then (if (wrap64 (x5 + 1)) < (x0.length : Int) then (if (x4.length : Int) = 20 then (some (x4, false)) else (if x4.length < 2199023255552 then (spec_l11Search.l0 k x0 (x4 ++ [(⟨x108000, x7, rdOf ByteArray.empty x0 (wrap64 (x5 + 1)), x108003⟩ : S37)]) (wrap64 ((wrap64 (x5 + 1)) + 1))) else (none))) else (none)) else (none))) else (if x7.toList = ([85, 73, 68] : List UInt8) then (if (wrap64 (x5 + 1)) = (x0.length : Int) then (some (x4, false)) else (spec_l11Search.j3 k x0 x4 (wrap64 (x5 + 1)) x108000 x7 x108002 x108003)) else (spec_l11Search.j3 k x0 x4 x5 x108000 (⟨#[83, 69, 84]⟩ : ByteArray) x108002 x108003))
def spec_l11Search.j3 : Nat → List ByteArray → List (S37) → Int → Bool → ByteArray → ByteArray → List (S49) → Option ((List (S37)) × Bool)
 | 0, _, _, _, _, _, _, _ => none
 | k + 1, x0, x4, x5, x108000, x108001, x108002, x108003 => if 0 ≤ x5 then (if x5 < (x0.length : Int) then ((spec_l11Set.f k (rdOf ByteArray.empty x0 x5)).bind fun bt121 => (if bt121.2 = true then (if (x4.length : Int) = 20 then (some (x4, false)) else (if x4.length < 2199023255552 then (spec_l11Search.l0 k x0 (x4 ++ [(⟨x108000, x108001, x108002, bt121.1⟩ : S37)]) (wrap64 (x5 + 1))) else (none))) else (some (x4, false)))) else (none)) else (none)
end
def spec_l11Search.f (k : Nat) (l0 : List ByteArray) : Option ((List (S37)) × Bool) := spec_l11Search.l0 k l0 (([] : List (S37))) 0
theorem spec_l11Search.mono_l : ∀ k, (∀ y0 y1 y2, LeO (spec_l11Search.l0 k y0 y1 y2) (spec_l11Search.l0 (k + 1) y0 y1 y2)) ∧ (∀ y0 y1 y2 y3 y4 y5 y6, LeO (spec_l11Search.j1 k y0 y1 y2 y3 y4 y5 y6) (spec_l11Search.j1 (k + 1) y0 y1 y2 y3 y4 y5 y6)) ∧ (∀ y0 y1 y2 y3 y4 y5 y6 y7 y8, LeO (spec_l11Search.j2 k y0 y1 y2 y3 y4 y5 y6 y7 y8) (spec_l11Search.j2 (k + 1) y0 y1 y2 y3 y4 y5 y6 y7 y8)) ∧ (∀ y0 y1 y2 y3 y4 y5 y6, LeO (spec_l11Search.j3 k y0 y1 y2 y3 y4 y5 y6) (spec_l11Search.j3 (k + 1) y0 y1 y2 y3 y4 y5 y6))
 | 0 => ⟨fun _ _ _ r h => by simp [spec_l11Search.l0] at h, fun _ _ _ _ _ _ _ r h => by simp [spec_l11Search.j1] at h, fun _ _ _ _ _ _ _ _ _ r h => by simp [spec_l11Search.j2] at h, fun _ _ _ _ _ _ _ r h => by simp [spec_l11Search.j3] at h⟩
 | k + 1 => by
  obtain ⟨ih0, ih1, ih2, ih3⟩ := spec_l11Search.mono_l k; refine ⟨?_, ?_, ?_, ?_⟩
  ·intro y0 y1 y2
   unfold spec_l11Search.l0
   repeat' first
   | (with_reducible exact ih0 _ _ _)
   | (with_reducible exact ih1 _ _ _ _ _ _ _)
   | (with_reducible exact ih2 _ _ _ _ _ _ _ _ _)
   | (with_reducible exact ih3 _ _ _ _ _ _ _)
   | (with_reducible exact spec_l11Bare.mono _ _)
   | (with_reducible exact spec_l11Set.mono _ _)
   | (with_reducible exact LeO.refl _)
   | (with_reducible exact LeO.none _)
   | (with_reducible refine LeO.ite ?_ ?_)
   | (with_reducible refine LeO.bind ?_ (fun _ => ?_))
   | exact ih0 _ _ _
   | exact ih1 _ _ _ _ _ _ _
   | exact ih2 _ _ _ _ _ _ _ _ _
   | exact ih3 _ _ _ _ _ _ _
   | exact spec_l11Bare.mono _ _
   | exact spec_l11Set.mono _ _
   | exact LeO.none _
   | refine LeO.ite ?_ ?_
   | refine LeO.bind ?_ (fun _ => ?_)
  ·intro y0 y1 y2 y3 y4 y5 y6
   unfold spec_l11Search.j1
   repeat' first
   | (with_reducible exact ih0 _ _ _)
   | (with_reducible exact ih1 _ _ _ _ _ _ _)
   | (with_reducible exact ih2 _ _ _ _ _ _ _ _ _)
   | (with_reducible exact ih3 _ _ _ _ _ _ _)
   | (with_reducible exact spec_l11Bare.mono _ _)
   | (with_reducible exact spec_l11Set.mono _ _)
   | (with_reducible exact LeO.refl _)
   | (with_reducible exact LeO.none _)
   | (with_reducible refine LeO.ite ?_ ?_)
   | (with_reducible refine LeO.bind ?_ (fun _ => ?_))
   | exact ih0 _ _ _
   | exact ih1 _ _ _ _ _ _ _
   | exact ih2 _ _ _ _ _ _ _ _ _
   | exact ih3 _ _ _ _ _ _ _
   | exact spec_l11Bare.mono _ _
   | exact spec_l11Set.mono _ _
   | exact LeO.none _
   | refine LeO.ite ?_ ?_
   | refine LeO.bind ?_ (fun _ => ?_)
  ·intro y0 y1 y2 y3 y4 y5 y6 y7 y8
   unfold spec_l11Search.j2
   repeat' first
   | (with_reducible exact ih0 _ _ _)
   | (with_reducible exact ih1 _ _ _ _ _ _ _)
   | (with_reducible exact ih2 _ _ _ _ _ _ _ _ _)
   | (with_reducible exact ih3 _ _ _ _ _ _ _)
   | (with_reducible exact spec_l11Bare.mono _ _)
   | (with_reducible exact spec_l11Set.mono _ _)
   | (with_reducible exact LeO.refl _)
   | (with_reducible exact LeO.none _)
   | (with_reducible refine LeO.ite ?_ ?_)
   | (with_reducible refine LeO.bind ?_ (fun _ => ?_))
   | exact ih0 _ _ _
   | exact ih1 _ _ _ _ _ _ _
   | exact ih2 _ _ _ _ _ _ _ _ _
   | exact ih3 _ _ _ _ _ _ _
   | exact spec_l11Bare.mono _ _
   | exact spec_l11Set.mono _ _
   | exact LeO.none _
   | refine LeO.ite ?_ ?_
   | refine LeO.bind ?_ (fun _ => ?_)
  ·intro y0 y1 y2 y3 y4 y5 y6
   unfold spec_l11Search.j3
   repeat' first
   | (with_reducible exact ih0 _ _ _)
   | (with_reducible exact ih1 _ _ _ _ _ _ _)
   | (with_reducible exact ih2 _ _ _ _ _ _ _ _ _)
   | (with_reducible exact ih3 _ _ _ _ _ _ _)
   | (with_reducible exact spec_l11Bare.mono _ _)
   | (with_reducible exact spec_l11Set.mono _ _)
   | (with_reducible exact LeO.refl _)
   | (with_reducible exact LeO.none _)
   | (with_reducible refine LeO.ite ?_ ?_)
   | (with_reducible refine LeO.bind ?_ (fun _ => ?_))
   | exact ih0 _ _ _
   | exact ih1 _ _ _ _ _ _ _
   | exact ih2 _ _ _ _ _ _ _ _ _
   | exact ih3 _ _ _ _ _ _ _
   | exact spec_l11Bare.mono _ _
   | exact spec_l11Set.mono _ _
   | exact LeO.none _
   | refine LeO.ite ?_ ?_
   | refine LeO.bind ?_ (fun _ => ?_)
theorem spec_l11Search.mono : ∀ a0 k, LeO (spec_l11Search.f k a0) (spec_l11Search.f (k + 1) a0) := by
 intro a0 k
 obtain ⟨ih0, ih1, ih2, ih3⟩ := spec_l11Search.mono_l k
 unfold spec_l11Search.f
 repeat' first
   | (with_reducible exact ih0 _ _ _)
   | (with_reducible exact ih1 _ _ _ _ _ _ _)
   | (with_reducible exact ih2 _ _ _ _ _ _ _ _ _)
   | (with_reducible exact ih3 _ _ _ _ _ _ _)
   | (with_reducible exact spec_l11Bare.mono _ _)
   | (with_reducible exact spec_l11Set.mono _ _)
   | (with_reducible exact LeO.refl _)
   | (with_reducible exact LeO.none _)
   | (with_reducible refine LeO.ite ?_ ?_)
   | (with_reducible refine LeO.bind ?_ (fun _ => ?_))
   | exact ih0 _ _ _
   | exact ih1 _ _ _ _ _ _ _
   | exact ih2 _ _ _ _ _ _ _ _ _
   | exact ih3 _ _ _ _ _ _ _
   | exact spec_l11Bare.mono _ _
   | exact spec_l11Set.mono _ _
   | exact LeO.none _
   | refine LeO.ite ?_ ?_
   | refine LeO.bind ?_ (fun _ => ?_)
set_option maxHeartbeats 8000000 in
set_option maxRecDepth 100000 in
theorem spec_l11Search.calls (k : Nat) (A0 : Option Addr) (c0 : Nat) (l0 : List ByteArray) (r1 : List (S37)) (r2 : Bool) (w : World) (hr0 : Kd.C Kd.string w A0 l0.length l0) (hc0 : l0.length ≤ c0) (h : spec_l11Search.f k l0 = some (r1, r2)) :
  Calls Tryd.prog 13 #[.slice A0 l0.length c0] w fun e w' => ∃ v0_ : Value, e = .returned (.tuple #[v0_, .bool r2]) ∧ Kd.S k37 37 w' w.heap.size (fun _ => True) v0_ r1 ∧ Below w.heap.size w w' := by
 have hu37 := Tryd.underlying37
 have HR0 := Aside0.mk hr0
 have HC0 := Aside0.mk hc0
 clear hr0 hc0
 have HB := Aside0.mk (Below.refl w.heap.size w)
 have H : (spec_l11Search.l0 k l0 (([] : List (S37))) 0) = some (r1, r2) := h
 clear h
 obtain ⟨y101, hy101⟩ : ∃ y_ : List (S37), y_ = (([] : List (S37))) := ⟨_, rfl⟩
 replace H : (spec_l11Search.l0 k l0 y101 0) = some (r1, r2) := qh_ hy101 H
 have Ny101 := Aside0.mk hy101
 clear hy101
 have H' := Aside0.mk H
 clear H
 go_enter Tryd.func13, Tryd.ntmps13
 go_wp2_with (first | ((with_reducible refine gate_dst (N := 10) rfl ?_); refine Kd.S_lit k37 _ 37 ?Hg (N := 10) ?Hd (xs := ([] : List (S37))) (inner := []) (ok := fun _ => True) (okp := fun _ => True) ?Hr ?Hp (fun _ hk => hk) trivial (Below.refl _ _) (Nat.le_refl _) (by simp) ?_; (case Hd => rfl); (case Hg => rfl); (case Hr => first | (go_simp; done) | (go_simp; rfl)); (case Hp => exact (Reps.none _ _)); intro v102 w2 ho3 hb hg_ hnew_; clear hg_ hnew_; (first | rw [← Ny101.out] at ho3 | (simp only [Int.reduceToNat] at ho3; rw [← Ny101.out] at ho3)); have HO103 := Aside0.mk (Kd.S_lower ho3 (below_size qBHB)); replace HB := Aside0.mk (below_step qBHB hb); clear hb ho3))
 go_loopg [4, 5] k (fun kq v4 v5 w' => ∃ (x4_1 : List (S37)) (x5_1 : Int), v5 = .int .i64 x5_1 ∧ Aside0 (spec_l11Search.l0 kq l0 x4_1 x5_1 = some (r1, r2)) ∧ Aside0 (kq ≤ k) ∧ Aside0 (Kd.S k37 37 w' w.heap.size (fun _ => True) v4 x4_1) ∧ Aside0 (Below w.heap.size w w'))
 case atStart => exact ⟨(y101), (0), qff_, H', ⟨Nat.le_refl _⟩, ⟨by (with_reducible repeat (first | apply Kd.S_alloc | apply Kd.S_drewN | apply Kd.S_drew)); exact HO103.out⟩, ⟨qBHB⟩⟩
 case round =>
  clear H'
  try clear c1
  try clear p2
  obtain ⟨x4_1, x5_1, rfl, HA, HK1, HO_4, HB⟩ := hrel
  cases gk with
  | zero => exact absurd HA.out (by simp [spec_l11Search.l0])
  | succ k1 =>
   have H := HA.out; clear HA; simp only [spec_l11Search.l0] at H; by_cases c4 : x5_1 < (l0.length : Int)
   ·rw [if_pos c4] at H
    have c4b0 : decide (x5_1 < (l0.length : Int)) = true := decide_eq_true c4; clear c4
    obtain ⟨y104, hy104⟩ : ∃ y_ : List (S49), y_ = (([] : List (S49))) := ⟨_, rfl⟩
    replace H : (if 0 ≤ x5_1 then ((spec_l11Upper.f (rdOf ByteArray.empty l0 x5_1)).bind fun t109 => (if t109.toList = ([78, 79, 84] : List UInt8) then (if (wrap64 (x5_1 + 1)) = (l0.length : Int) then (some (x4_1, false)) else (spec_l11Search.j1 k1 l0 x4_1 (wrap64 (x5_1 + 1)) true (⟨#[]⟩ : BA_) (⟨#[]⟩ : BA_) y104)) else (spec_l11Search.j1 k1 l0 x4_1 x5_1 false (⟨#[]⟩ : BA_) (⟨#[]⟩ : BA_) y104))) else (none)) = some (r1, r2) := qh_ hy104 H; have Ny104 := Aside0.mk hy104; clear hy104; by_cases c5 : 0 ≤ x5_1
    ·rw [if_pos c5] at H
     have c5b0 : decide (0 ≤ x5_1) = true := decide_eq_true c5; clear c5; replace H := Option.bind_eq_some_iff.mp H; obtain ⟨t109, A60, H⟩ := H; have A6 := Aside0.mk A60; clear A60; have HC7 := Aside0.mk H; clear H
     go_upto_if 24 with (first | ((with_reducible refine gate_dst (N := 17) rfl ?_); refine Kd.R_lit k49 _ 49 ?Hg (N := 17) ?Hd (xs := ([] : List (S49))) (inner := []) (ok := fun _ => True) (okp := fun _ => True) ?Hr ?Hp (fun _ hk => hk) trivial (Below.refl _ _) (Nat.le_refl _) (by simp) ?_; (case Hd => rfl); (case Hg => rfl); (case Hr => first | (go_simp; done) | (go_simp; rfl)); (case Hp => exact (Reps.none _ _)); intro v105 w8 ho9 hb hg_ hnew_; clear hg_ hnew_; (first | rw [← Ny104.out] at ho9 | (simp only [Int.reduceToNat] at ho9; rw [← Ny104.out] at ho9)); replace HO_4 := Aside0.mk (Kd.S_elder' (by (with_reducible repeat (first | apply Kd.S_alloc | apply Kd.S_drewN | apply Kd.S_drew)); exact HO_4.out) (Kd.R_base ho9) hb); have HO106 := Aside0.mk (Kd.R_lower ho9 (below_size qBHB)); replace HB := Aside0.mk (below_step qBHB hb); clear hb ho9; obtain ⟨Ao10, co10, eo10⟩ := Kd.R_slice HO106.out; subst eo10) | ((with_reducible refine gate_dst (N := 6) rfl ?_); refine box_event ?Hg (N := 6) ?Hd (cs := #[.bool false, .string (⟨#[]⟩ : BA_), .string (⟨#[]⟩ : BA_), .slice none 0 0]) (t := 37) ?Hr ?_; (case Hd => rfl); (case Hg => rfl); (case Hr => first | (go_simp; done) | (go_simp; rfl)); intro gb107 hg w11 hbox hb; replace HO_4 := Aside0.mk (Kd.S_below (Kd.S_elderB (by (with_reducible repeat (first | apply Kd.S_alloc | apply Kd.S_drewN | apply Kd.S_drew)); exact HO_4.out) gb107 (Nat.le_of_eq hg.symm)) hb); replace HO106 := Aside0.mk (Kd.R_below (qr_ HO106) hb); have BK107 := Aside0.mk (hbox); have GW107 := Aside0.mk ((by rw [hg]; exact (below_size qBHB) : w.heap.size ≤ gb107)); have GE107 := Aside0.mk ((by rw [hg]; exact (below_size qBHB) : w.heap.size ≤ gb107)); replace HB := Aside0.mk (below_step qBHB hb); clear hb hbox hg; obtain ⟨hcz12_0, hcz12_1, hcz12_2, hcz12_3, hfz12_0⟩ := qc4_ BK107; have p108 : 0 ≤ (x5_1 : Int) := qd_; have q108 : x5_1 < (l0.length : Int) := qd_; obtain ⟨ad108, e108, hx108_0⟩ := Kd.at_string HR0.out x5_1 p108 q108; cases e108; have hn108_0 : ad108.block ≠ gb107 := Nat.ne_of_lt (Nat.lt_of_lt_of_le (by have := World.block_lt_of_cell? _ _ hx108_0; first | rwa [add_block] at this | exact this) GW107.out); have hn108_1 : ad108.block ≠ gb107 := Nat.ne_of_lt (Nat.lt_of_lt_of_le (by have := World.block_lt_of_cell? _ _ hx108_0; first | rwa [add_block] at this | exact this) GW107.out); have hn108_2 : ad108.block ≠ gb107 := Nat.ne_of_lt (Nat.lt_of_lt_of_le (by have := World.block_lt_of_cell? _ _ hx108_0; first | rwa [add_block] at this | exact this) GW107.out); have hn108_3 : ad108.block ≠ gb107 := Nat.ne_of_lt (Nat.lt_of_lt_of_le (by have := World.block_lt_of_cell? _ _ hx108_0; first | rwa [add_block] at this | exact this) GW107.out); replace hx108_0 := (HB.out.cell (World.block_lt_of_cell? w _ hx108_0)).trans hx108_0; replace hx108_0 := (cell_far (p := ⟨gb107, 0, none⟩) (by first | (rw [add_block]; exact hn108_0) | (show (Addr.add _ _).block ≠ _; rw [add_block]; exact hn108_0) | exact hn108_0) (.bool false)).trans hx108_0; replace hx108_0 := (cell_far (p := ⟨gb107, 1, none⟩) (by first | (rw [add_block]; exact hn108_1) | (show (Addr.add _ _).block ≠ _; rw [add_block]; exact hn108_1) | exact hn108_1) (.string (⟨#[]⟩ : BA_))).trans hx108_0; replace hx108_0 := (cell_far (p := ⟨gb107, 2, none⟩) (by first | (rw [add_block]; exact hn108_2) | (show (Addr.add _ _).block ≠ _; rw [add_block]; exact hn108_2) | exact hn108_2) (.string (⟨#[]⟩ : BA_))).trans hx108_0; replace hx108_0 := (cell_far (p := ⟨gb107, 3, none⟩) (by first | (rw [add_block]; exact hn108_3) | (show (Addr.add _ _).block ≠ _; rw [add_block]; exact hn108_3) | exact hn108_3) (.slice Ao10 y104.length co10)).trans hx108_0; clear hn108_0; clear hn108_1; clear hn108_2; clear hn108_3; replace p108 := eq_true p108; replace q108 := eq_true q108) | ((with_reducible refine gate_callee (f := 19) rfl ?_); refine goesL_ (some 23) rfl rfl Tryd.func19 qK rfl #[.string (rdOf ByteArray.empty l0 x5_1)] rfl qll_ ?_; (with_reducible refine (spec_l11Upper.calls (rdOf ByteArray.empty l0 x5_1) t109 _ A6.out).mono ?_); rintro e w13 ⟨rfl, hb⟩; refine ⟨_, rfl, ?_⟩; replace HO_4 := Aside0.mk (Kd.S_below (by (with_reducible repeat (first | apply Kd.S_alloc | apply Kd.S_drewN | apply Kd.S_drew)); exact (Kd.S_mono (Kd.S_far (p := ⟨gb107, 3, none⟩) (Kd.S_far (p := ⟨gb107, 2, none⟩) (Kd.S_far (p := ⟨gb107, 1, none⟩) (Kd.S_far (p := ⟨gb107, 0, none⟩) (Kd.S_mono HO_4.out (fun k_ hk => (⟨hk, hk.2⟩ : _ ∧ k_ ≠ gb107))) (fun _ hk => hk.2) (.bool false)) (fun _ hk => hk.2) (.string (⟨#[]⟩ : BA_))) (fun _ hk => hk.2) (.string (⟨#[]⟩ : BA_))) (fun _ hk => hk.2) (.slice Ao10 y104.length co10)) (fun _ h_ => h_.1))) hb); replace HO106 := Aside0.mk (Kd.R_below (by (with_reducible repeat (first | apply Kd.R_alloc | apply Kd.R_drewN | apply Kd.R_drew)); exact (Kd.R_mono (qf4_ HO106 BK107) (fun _ h_ => h_.1))) hb); replace BK107 := Aside0.mk (blk_below (g := gb107) (o := .cells #[.bool false, .string (⟨#[]⟩ : BA_), .string (⟨#[]⟩ : BA_), .slice Ao10 y104.length co10] 37 (0, 0)) (qp_ BK107) hb); replace HB := Aside0.mk (below_step qBHB hb); (try clear hb); (try clear hb2); (try clear hk); (try clear hi)))
     (try simp only [Act.put, List.setIfInBounds_toArray, List.set_cons_zero, List.set_cons_succ])
     go_cut [5] (fun v5 wc => ∃ (kq : Nat) (x5_6 : Int) (x108000_6 : Bool), v5 = .int .i64 x5_6 ∧ Aside0 (spec_l11Search.j1 kq l0 x4_1 x5_6 x108000_6 (⟨#[]⟩ : BA_) (⟨#[]⟩ : BA_) y104 = some (r1, r2)) ∧ Aside0 (kq ≤ k1) ∧ Aside0 (Kd.S k37 37 wc w.heap.size (fun k_ => some k_ ≠ ((.slice Ao10 y104.length co10) : Value).ownBlock ∧ k_ ≠ gb107) u4 x4_1) ∧ Aside0 (Kd.R k49 49 wc w.heap.size (fun _ => True) (.slice Ao10 y104.length co10) y104) ∧ Aside0 (wc.heap[gb107]? = some (.cells #[.bool x108000_6, .string (⟨#[]⟩ : BA_), .string (⟨#[]⟩ : BA_), (.slice Ao10 y104.length co10)] 37 (0, 0))) ∧ Aside0 (Below w.heap.size w wc))
     case first =>
      have H := HC7.out; clear HC7; by_cases c14 : t109.toList = ([78, 79, 84] : List UInt8)
      ·rw [if_pos c14] at H
       have c14b0 : (t109.toList == ([78, 79, 84] : List UInt8)) = true := beq_iff_eq.mpr c14; have c14b1 : (t109.toList != ([78, 79, 84] : List UInt8)) = false := bne_eq_false_iff_eq.mpr c14; clear c14
       (first | rw [c14b0] | (simp only [i64_w, i32_w]; rw [c14b0]) | skip)
       by_cases c15 : (wrap64 (x5_1 + 1)) = (l0.length : Int)
       ·rw [if_pos c15] at H
        have c15b0 : ((wrap64 (x5_1 + 1)) == (l0.length : Int)) = true := beq_iff_eq.mpr c15; have c15b1 : ((wrap64 (x5_1 + 1)) != (l0.length : Int)) = false := bne_eq_false_iff_eq.mpr c15; clear c15; simp only [Option.some.injEq, Prod.mk.injEq] at H; obtain ⟨rfl, rfl⟩ := H; obtain ⟨hcz16_0, hcz16_1, hcz16_2, hcz16_3, hfz16_0⟩ := qc4_ BK107
        go_wp2
        go_ret2
        exact ⟨_, qee_, by (with_reducible repeat (first | apply Kd.S_alloc | apply Kd.S_drewN | apply Kd.S_drew)); exact Kd.S_mono (Kd.S_far (p := ⟨gb107, 0, none⟩) (Kd.S_mono HO_4.out (fun k_ hk => (⟨hk, hk.2⟩ : _ ∧ k_ ≠ gb107))) (fun _ hk => hk.2) (.bool true)) (fun _ hk => trivial), qBHB⟩
       ·rw [if_neg c15] at H
        have c15b0 : ((wrap64 (x5_1 + 1)) == (l0.length : Int)) = false := beq_eq_false_iff_ne.mpr c15; have c15b1 : ((wrap64 (x5_1 + 1)) != (l0.length : Int)) = true := bne_iff_ne.mpr c15; have H' := Aside0.mk H; clear H; obtain ⟨hcz17_0, hcz17_1, hcz17_2, hcz17_3, hfz17_0⟩ := qc4_ BK107
        go_wp2
        go_meet
        case rel => exact ⟨_, (wrap64 (x5_1 + 1)), (true), qff_, H', ⟨by have := HK1.out; first | omega | exact Nat.le_refl _⟩, ⟨by (with_reducible repeat (first | apply Kd.S_alloc | apply Kd.S_drewN | apply Kd.S_drew)); exact Kd.S_mono (Kd.S_far (p := ⟨gb107, 0, none⟩) (Kd.S_mono HO_4.out (fun k_ hk => (⟨hk, hk.2⟩ : _ ∧ k_ ≠ gb107))) (fun _ hk => hk.2) (.bool true)) (fun _ hk => ⟨hk.1.1.2, hk.1.2⟩)⟩, ⟨by (with_reducible repeat (first | apply Kd.R_alloc | apply Kd.R_drewN | apply Kd.R_drew)); exact Kd.R_mono (qf1_ HO106 BK107) (fun _ hk => trivial)⟩, ⟨qp_ BK107⟩, ⟨qBHB⟩⟩
      ·rw [if_neg c14] at H
       have c14b0 : (t109.toList == ([78, 79, 84] : List UInt8)) = false := beq_eq_false_iff_ne.mpr c14; have c14b1 : (t109.toList != ([78, 79, 84] : List UInt8)) = true := bne_iff_ne.mpr c14
       (first | rw [c14b0] | (simp only [i64_w, i32_w]; rw [c14b0]) | skip)
       have H' := Aside0.mk H; clear H
       go_wp2
       go_meet
       case rel => exact ⟨_, (x5_1), (false), qff_, H', ⟨by have := HK1.out; first | omega | exact Nat.le_refl _⟩, ⟨by (with_reducible repeat (first | apply Kd.S_alloc | apply Kd.S_drewN | apply Kd.S_drew)); exact Kd.S_mono HO_4.out (fun _ hk => ⟨hk.1.2, hk.2⟩)⟩, ⟨qr_ HO106⟩, ⟨qk_ BK107⟩, ⟨qBHB⟩⟩
     case rest =>
      clear HC7
      try clear c1
      try clear p1
      try clear q1
      try clear hx1
      try clear p2
      try clear c4
      try clear c4b0
      try clear c5
      try clear c5b0
      try clear p6
      try clear p10
      try clear q10
      try clear hx10
      try clear c13
      try clear c14
      try clear c14b0
      try clear c14b1
      try clear c15
      try clear c15b0
      try clear c15b1
      try clear hcz12_0 hcz12_1 hcz12_2 hcz12_3
      try clear hcz16_0 hcz16_1 hcz16_2 hcz16_3
      try clear hcz17_0 hcz17_1 hcz17_2 hcz17_3
      try clear hfz12_0
      try clear hfz16_0
      try clear hfz17_0
      try clear hx108_0
      try clear p108
      try clear p2
      try clear q108
      obtain ⟨kq, x5_6, x108000_6, rfl, HA, HJ6, HO_4, HO_108003, BK107, HB⟩ := hcut
      cases kq with
      | zero => exact absurd HA.out (by simp [spec_l11Search.j1])
      | succ kj6 =>
       have H := HA.out; clear HA; simp only [spec_l11Search.j1] at H; by_cases c18 : 0 ≤ x5_6
       ·rw [if_pos c18] at H
        have c18b0 : decide (0 ≤ x5_6) = true := decide_eq_true c18; clear c18; by_cases c19 : x5_6 < (l0.length : Int)
        ·rw [if_pos c19] at H
         have c19b0 : decide (x5_6 < (l0.length : Int)) = true := decide_eq_true c19; clear c19; replace H := Option.bind_eq_some_iff.mp H; obtain ⟨t111, A200, H⟩ := H; have A20 := Aside0.mk A200; clear A200; replace H := Option.bind_eq_some_iff.mp H; obtain ⟨t112, A210, H⟩ := H; have A21 := Aside0.mk A210; clear A210; by_cases c22 : t112 = true
         ·subst c22
          have H1 : (if (x4_1.length : Int) = 20 then (some (x4_1, false)) else (if x4_1.length < 2199023255552 then (spec_l11Search.l0 kj6 l0 (x4_1 ++ [(⟨x108000_6, t111, (⟨#[]⟩ : BA_), y104⟩ : S37)]) (wrap64 (x5_6 + 1))) else (none))) = some (r1, r2) := by rw [if_pos rfl] at H; exact H
          clear H; have H := H1; clear H1; by_cases c23 : (x4_1.length : Int) = 20
          ·rw [if_pos c23] at H
           have c23b0 : ((x4_1.length : Int) == 20) = true := beq_iff_eq.mpr c23; have c23b1 : ((x4_1.length : Int) != 20) = false := bne_eq_false_iff_eq.mpr c23; clear c23; simp only [Option.some.injEq, Prod.mk.injEq] at H; obtain ⟨rfl, rfl⟩ := H; have p110 : 0 ≤ (x5_6 : Int) := qd_; have q110 : x5_6 < (l0.length : Int) := qd_; obtain ⟨ad110, e110, hx110_0⟩ := Kd.at_string HR0.out x5_6 p110 q110; obtain rfl : ad108 = ad110 := (by injection e110); replace hx110_0 := (HB.out.cell (World.block_lt_of_cell? w _ hx110_0)).trans hx110_0; replace p110 := eq_true p110; replace q110 := eq_true q110
           go_wp2_with (first | ((with_reducible refine gate_callee (f := 19) rfl ?_); refine goesL_ (some 37) rfl rfl Tryd.func19 qK rfl #[.string (rdOf ByteArray.empty l0 x5_6)] rfl qll_ ?_; (with_reducible refine (spec_l11Upper.calls (rdOf ByteArray.empty l0 x5_6) t111 _ A20.out).mono ?_); rintro e w24 ⟨rfl, hb⟩; refine ⟨_, rfl, ?_⟩; replace HO_4 := Aside0.mk (Kd.S_below (by (with_reducible repeat (first | apply Kd.S_alloc | apply Kd.S_drewN | apply Kd.S_drew)); exact HO_4.out) hb); replace HO_108003 := Aside0.mk (Kd.R_below (qr_ HO_108003) hb); replace BK107 := Aside0.mk (blk_below (qk_ BK107) hb); replace HB := Aside0.mk (below_step qBHB hb); (try clear hb); (try clear hb2); (try clear hk); (try clear hi)) | ((with_reducible refine gate_callee (f := 20) rfl ?_); refine goesL_ (some 65) rfl rfl Tryd.func20 qK rfl #[.string t111] rfl qll_ ?_; (with_reducible refine (spec_l11Bare.calls kj6 t111 true _ A21.out).mono ?_); rintro e w25 ⟨rfl, hb⟩; refine ⟨_, rfl, ?_⟩; replace HO_4 := Aside0.mk (Kd.S_below (by (with_reducible repeat (first | apply Kd.S_alloc | apply Kd.S_drewN | apply Kd.S_drew)); exact HO_4.out) hb); replace HO_108003 := Aside0.mk (Kd.R_below (qr_ HO_108003) hb); replace BK107 := Aside0.mk (blk_below (qk_ BK107) hb); replace HB := Aside0.mk (below_step qBHB hb); (try clear hb); (try clear hb2); (try clear hk); (try clear hi); obtain ⟨hcz26_0, hcz26_1, hcz26_2, hcz26_3, hfz26_0⟩ := qc4_ BK107; obtain ⟨Ao27, co27, eo27⟩ := Kd.S_slice HO_4.out; subst eo27))
           go_ret2
           exact ⟨_, qee_, by (with_reducible repeat (first | apply Kd.S_alloc | apply Kd.S_drewN | apply Kd.S_drew)); exact Kd.S_mono (Kd.S_far (p := ⟨gb107, 1, none⟩) (Kd.S_mono HO_4.out (fun k_ hk => (⟨hk, hk.2⟩ : _ ∧ k_ ≠ gb107))) (fun _ hk => hk.2) (.string t111)) (fun _ hk => trivial), qBHB⟩
          ·rw [if_neg c23] at H
           have c23b0 : ((x4_1.length : Int) == 20) = false := beq_eq_false_iff_ne.mpr c23; have c23b1 : ((x4_1.length : Int) != 20) = true := bne_iff_ne.mpr c23; by_cases c28 : x4_1.length < 2199023255552
           ·rw [if_pos c28] at H
            have LMc28 := Aside0.mk c28; clear c28
            obtain ⟨y113, hy113⟩ : ∃ y_ : List (S37), y_ = (x4_1 ++ [(⟨x108000_6, t111, (⟨#[]⟩ : BA_), y104⟩ : S37)]) := ⟨_, rfl⟩
            replace H : (spec_l11Search.l0 kj6 l0 y113 (wrap64 (x5_6 + 1))) = some (r1, r2) := qh_ hy113 H; have Ny113 := Aside0.mk hy113; clear hy113; have H' := Aside0.mk H; clear H; have p110 : 0 ≤ (x5_6 : Int) := qd_; have q110 : x5_6 < (l0.length : Int) := qd_; obtain ⟨ad110, e110, hx110_0⟩ := Kd.at_string HR0.out x5_6 p110 q110; obtain rfl : ad108 = ad110 := (by injection e110); replace hx110_0 := (HB.out.cell (World.block_lt_of_cell? w _ hx110_0)).trans hx110_0; replace p110 := eq_true p110; replace q110 := eq_true q110
            go_wp2_with (first | ((with_reducible refine gate_callee (f := 19) rfl ?_); refine goesL_ (some 37) rfl rfl Tryd.func19 qK rfl #[.string (rdOf ByteArray.empty l0 x5_6)] rfl qll_ ?_; (with_reducible refine (spec_l11Upper.calls (rdOf ByteArray.empty l0 x5_6) t111 _ A20.out).mono ?_); rintro e w29 ⟨rfl, hb⟩; refine ⟨_, rfl, ?_⟩; replace HO_4 := Aside0.mk (Kd.S_below (by (with_reducible repeat (first | apply Kd.S_alloc | apply Kd.S_drewN | apply Kd.S_drew)); exact HO_4.out) hb); replace HO_108003 := Aside0.mk (Kd.R_below (qr_ HO_108003) hb); replace BK107 := Aside0.mk (blk_below (qk_ BK107) hb); replace HB := Aside0.mk (below_step qBHB hb); (try clear hb); (try clear hb2); (try clear hk); (try clear hi)) | ((with_reducible refine gate_callee (f := 20) rfl ?_); refine goesL_ (some 65) rfl rfl Tryd.func20 qK rfl #[.string t111] rfl qll_ ?_; (with_reducible refine (spec_l11Bare.calls kj6 t111 true _ A21.out).mono ?_); rintro e w30 ⟨rfl, hb⟩; refine ⟨_, rfl, ?_⟩; replace HO_4 := Aside0.mk (Kd.S_below (by (with_reducible repeat (first | apply Kd.S_alloc | apply Kd.S_drewN | apply Kd.S_drew)); exact HO_4.out) hb); replace HO_108003 := Aside0.mk (Kd.R_below (qr_ HO_108003) hb); replace BK107 := Aside0.mk (blk_below (qk_ BK107) hb); replace HB := Aside0.mk (below_step qBHB hb); (try clear hb); (try clear hb2); (try clear hk); (try clear hi); obtain ⟨hcz31_0, hcz31_1, hcz31_2, hcz31_3, hfz31_0⟩ := qc4_ BK107) | ((with_reducible refine gate_store (t := 9) (p := 67) rfl ?_); refine store_event (t := 9) (p := 67) (v := ?vo_w32) (w1 := (w30.setCell ⟨gb107, 1, none⟩ (.string t111))) ?Hg ?Ho ?Hn ?Hr ?_; (case Ho => rfl); (case Hg => rfl); (case Hn => rfl); (case Hr => first | (go_simp; done) | (go_simp; rfl)); intro w32 hw; replace HO_4 : Aside0 (Kd.S k37 37 w32 w.heap.size (fun k_ => some k_ ≠ (.slice Ao10 y104.length co10 : Value).ownBlock ∧ k_ ≠ gb107) u4 x4_1) := ⟨(by rw [hw]; exact (by (with_reducible repeat (first | apply Kd.S_alloc | apply Kd.S_drewN | apply Kd.S_drew)); exact Kd.S_mono (Kd.S_far (p := ⟨gb107, 1, none⟩) (Kd.S_mono HO_4.out (fun k_ hk => (⟨hk, hk.2⟩ : _ ∧ k_ ≠ gb107))) (fun _ hk => hk.2) (.string t111)) (fun _ hk => ⟨hk.1.1, hk.1.2⟩)))⟩; replace HO_108003 : Aside0 (Kd.R k49 49 w32 w.heap.size (fun _ => True) (.slice Ao10 y104.length co10) y104) := ⟨(by rw [hw]; exact (by (with_reducible repeat (first | apply Kd.R_alloc | apply Kd.R_drewN | apply Kd.R_drew)); exact Kd.R_mono (qf1_ HO_108003 BK107) (fun _ hk => trivial)))⟩; replace BK107 : Aside0 (w32.heap[gb107]? = some (.cells #[.bool x108000_6, .string t111, .string (⟨#[]⟩ : BA_), .slice Ao10 y104.length co10] 37 (0, 0))) := ⟨(by rw [hw]; exact (qp_ BK107))⟩; replace HB : Aside0 (Below w.heap.size w w32) := ⟨(by rw [hw]; exact qBHB)⟩; clear hw; obtain ⟨Ao33, co33, eo33⟩ := Kd.S_slice HO_4.out; subst eo33; obtain ⟨hcz34_0, hcz34_1, hcz34_2, hcz34_3, hfz34_0⟩ := qc4_ BK107) | ((with_reducible refine gate_builtin (b := .append) (xs := #[.tmp 97, .tmp 99]) rfl ?_); at_builtin; refine Kd.S_append k37 (w0 := w) w.heap.size rfl (.tmp 97) (.tmp 99) 24 37 (.agg #[(.bool false), (.string ⟨#[]⟩), (.string ⟨#[]⟩), (.slice none 0 0)]) 64 rfl Tryd.underlying24 info37 rfl (by decide) (by omega) (.slice Ao33 x4_1.length co33) x4_1 (⟨x108000_6, t111, (⟨#[]⟩ : BA_), y104⟩ : S37) [.bool x108000_6, .string t111, .string (⟨#[]⟩ : BA_), .slice Ao10 y104.length co10] (fun k_ => k_ ≠ gb107) (fun k_ => some k_ = (.slice Ao10 y104.length co10 : Value).ownBlock) rfl rfl ?aP (fun k_ hk_ => ((Kd.R_mono (ok' := fun k_ => ((fun k_ => k_ ≠ gb107)) k_ ∧ some k_ ≠ (.slice Ao33 x4_1.length co33 : Value).ownBlock) (Kd.R_types (Kd.R_apart' (HO_108003.out) (Kd.S_typed HO_4.out) (by decide)) BK107.out (by decide)) (fun k_ hk => ⟨hk.2, hk.1.2⟩))).1 k_ hk_.symm) ?aF ?aO ?aB ?aS ?aL ?_; (case aP => exact k37_mkM _ _ _ (⟨x108000_6, t111, (⟨#[]⟩ : BA_), y104⟩ : S37) (Kd.R_mono (Kd.R_tight rfl (Kd.R_mono (ok' := fun k_ => ((fun k_ => k_ ≠ gb107)) k_ ∧ some k_ ≠ (.slice Ao33 x4_1.length co33 : Value).ownBlock) (Kd.R_types (Kd.R_apart' (HO_108003.out) (Kd.S_typed HO_4.out) (by decide)) BK107.out (by decide)) (fun k_ hk => ⟨hk.2, hk.1.2⟩))) (fun _ h_ => h_))); (case aB => exact qBHB); (case aF => exact (fun k_ hk => Kd.freshB (qk_ BK107) k_ hk)); (case aO => exact (by (with_reducible repeat (first | apply Kd.S_alloc | apply Kd.S_drewN | apply Kd.S_drew)); exact Kd.S_mono HO_4.out (fun k_ hk => ⟨hk.2, fun e_ => hk.1 e_⟩))); (case aS => exact (below_size qBHB)); (case aL => have := LMc28.out; omega); intro v114 w35 ho hb hg hat; rw [← Ny113.out] at ho; replace BK107 := Aside0.mk (blk_grown (qk_ BK107) hg (Kd.S_away HO_4.out (fun _ hk => hk.2))); replace HB := Aside0.mk (hb); have HO115 := Aside0.mk (ho); clear HO_4 HO_108003; clear ho hb hg hat))
            go_roundg kj6
            case measure => have := HK1.out; have := HJ6.out; omega
            case rel => exact ⟨(y113), (wrap64 (x5_6 + 1)), qff_, H', ⟨by have := HK1.out; have := HJ6.out; omega⟩, ⟨by (with_reducible repeat (first | apply Kd.S_alloc | apply Kd.S_drewN | apply Kd.S_drew)); exact Kd.S_mono HO115.out (fun _ hk => trivial)⟩, ⟨qBHB⟩⟩
           ·rw [if_neg c28] at H
            exact absurd H (by simp)
         ·replace c22 := Bool.eq_false_iff.mpr c22
          subst c22
          have H1 : (if t111.toList = ([83, 85, 66, 74, 69, 67, 84] : List UInt8) then (spec_l11Search.j2 kj6 l0 x4_1 x5_6 t111 true x108000_6 (⟨#[]⟩ : BA_) (⟨#[]⟩ : BA_) y104) else (if t111.toList = ([70, 82, 79, 77] : List UInt8) then (spec_l11Search.j2 kj6 l0 x4_1 x5_6 t111 true x108000_6 (⟨#[]⟩ : BA_) (⟨#[]⟩ : BA_) y104) else (spec_l11Search.j2 kj6 l0 x4_1 x5_6 t111 (t111.toList == ([84, 69, 88, 84] : List UInt8)) x108000_6 (⟨#[]⟩ : BA_) (⟨#[]⟩ : BA_) y104))) = some (r1, r2) := by rw [if_neg (show ¬ (false = true) by decide)] at H; exact H
          clear H; have H := H1; clear H1; have HC36 := Aside0.mk H; clear H; have p110 : 0 ≤ (x5_6 : Int) := qd_; have q110 : x5_6 < (l0.length : Int) := qd_; obtain ⟨ad110, e110, hx110_0⟩ := Kd.at_string HR0.out x5_6 p110 q110; obtain rfl : ad108 = ad110 := (by injection e110); replace hx110_0 := (HB.out.cell (World.block_lt_of_cell? w _ hx110_0)).trans hx110_0; replace p110 := eq_true p110; replace q110 := eq_true q110
          go_upto_region 24 with (first | ((with_reducible refine gate_callee (f := 19) rfl ?_); refine goesL_ (some 37) rfl rfl Tryd.func19 qK rfl #[.string (rdOf ByteArray.empty l0 x5_6)] rfl qll_ ?_; (with_reducible refine (spec_l11Upper.calls (rdOf ByteArray.empty l0 x5_6) t111 _ A20.out).mono ?_); rintro e w37 ⟨rfl, hb⟩; refine ⟨_, rfl, ?_⟩; replace HO_4 := Aside0.mk (Kd.S_below (by (with_reducible repeat (first | apply Kd.S_alloc | apply Kd.S_drewN | apply Kd.S_drew)); exact HO_4.out) hb); replace HO_108003 := Aside0.mk (Kd.R_below (qr_ HO_108003) hb); replace BK107 := Aside0.mk (blk_below (qk_ BK107) hb); replace HB := Aside0.mk (below_step qBHB hb); (try clear hb); (try clear hb2); (try clear hk); (try clear hi)) | ((with_reducible refine gate_callee (f := 20) rfl ?_); refine goesL_ (some 65) rfl rfl Tryd.func20 qK rfl #[.string t111] rfl qll_ ?_; (with_reducible refine (spec_l11Bare.calls kj6 t111 false _ A21.out).mono ?_); rintro e w38 ⟨rfl, hb⟩; refine ⟨_, rfl, ?_⟩; replace HO_4 := Aside0.mk (Kd.S_below (by (with_reducible repeat (first | apply Kd.S_alloc | apply Kd.S_drewN | apply Kd.S_drew)); exact HO_4.out) hb); replace HO_108003 := Aside0.mk (Kd.R_below (qr_ HO_108003) hb); replace BK107 := Aside0.mk (blk_below (qk_ BK107) hb); replace HB := Aside0.mk (below_step qBHB hb); (try clear hb); (try clear hb2); (try clear hk); (try clear hi)))
          (try simp only [Act.put, List.setIfInBounds_toArray, List.set_cons_zero, List.set_cons_succ])
          go_cut [68] (fun v68 wc => ∃ (kq : Nat) (x68_35 : Bool), v68 = .bool x68_35 ∧ Aside0 (spec_l11Search.j2 kq l0 x4_1 x5_6 t111 x68_35 x108000_6 (⟨#[]⟩ : BA_) (⟨#[]⟩ : BA_) y104 = some (r1, r2)) ∧ Aside0 (kq ≤ kj6) ∧ Aside0 (Kd.S k37 37 wc w.heap.size (fun k_ => some k_ ≠ ((.slice Ao10 y104.length co10) : Value).ownBlock ∧ k_ ≠ gb107) u4 x4_1) ∧ Aside0 (Kd.R k49 49 wc w.heap.size (fun _ => True) (.slice Ao10 y104.length co10) y104) ∧ Aside0 (wc.heap[gb107]? = some (.cells #[.bool x108000_6, .string (⟨#[]⟩ : BA_), .string (⟨#[]⟩ : BA_), (.slice Ao10 y104.length co10)] 37 (0, 0))) ∧ Aside0 (Below w.heap.size w wc))
          case first =>
           have H := HC36.out; clear HC36; by_cases c39 : t111.toList = ([83, 85, 66, 74, 69, 67, 84] : List UInt8)
           ·rw [if_pos c39] at H
            have c39b0 : (t111.toList == ([83, 85, 66, 74, 69, 67, 84] : List UInt8)) = true := beq_iff_eq.mpr c39; have c39b1 : (t111.toList != ([83, 85, 66, 74, 69, 67, 84] : List UInt8)) = false := bne_eq_false_iff_eq.mpr c39; clear c39
            (first | rw [c39b0] | (simp only [i64_w, i32_w]; rw [c39b0]) | skip)
            have H' := Aside0.mk H; clear H
            go_wp2
            go_meet
            case rel => exact ⟨_, (true), qff_, H', ⟨by have := HK1.out; have := HJ6.out; first | omega | exact Nat.le_refl _⟩, ⟨by (with_reducible repeat (first | apply Kd.S_alloc | apply Kd.S_drewN | apply Kd.S_drew)); exact HO_4.out⟩, ⟨qr_ HO_108003⟩, ⟨qk_ BK107⟩, ⟨qBHB⟩⟩
           ·rw [if_neg c39] at H
            have c39b0 : (t111.toList == ([83, 85, 66, 74, 69, 67, 84] : List UInt8)) = false := beq_eq_false_iff_ne.mpr c39; have c39b1 : (t111.toList != ([83, 85, 66, 74, 69, 67, 84] : List UInt8)) = true := bne_iff_ne.mpr c39
            (first | rw [c39b0] | (simp only [i64_w, i32_w]; rw [c39b0]) | skip)
            by_cases c40 : t111.toList = ([70, 82, 79, 77] : List UInt8)
            ·rw [if_pos c40] at H
             have c40b0 : (t111.toList == ([70, 82, 79, 77] : List UInt8)) = true := beq_iff_eq.mpr c40; have c40b1 : (t111.toList != ([70, 82, 79, 77] : List UInt8)) = false := bne_eq_false_iff_eq.mpr c40; clear c40; have H' := Aside0.mk H; clear H
             go_wp2
             go_meet
             case rel => exact ⟨_, (true), qff_, H', ⟨by have := HK1.out; have := HJ6.out; first | omega | exact Nat.le_refl _⟩, ⟨by (with_reducible repeat (first | apply Kd.S_alloc | apply Kd.S_drewN | apply Kd.S_drew)); exact HO_4.out⟩, ⟨qr_ HO_108003⟩, ⟨qk_ BK107⟩, ⟨qBHB⟩⟩
            ·rw [if_neg c40] at H
             have c40b0 : (t111.toList == ([70, 82, 79, 77] : List UInt8)) = false := beq_eq_false_iff_ne.mpr c40; have c40b1 : (t111.toList != ([70, 82, 79, 77] : List UInt8)) = true := bne_iff_ne.mpr c40; have H' := Aside0.mk H; clear H
             go_wp2
             go_meet
             case rel => exact ⟨_, ((t111.toList == ([84, 69, 88, 84] : List UInt8))), qff_, H', ⟨by have := HK1.out; have := HJ6.out; first | omega | exact Nat.le_refl _⟩, ⟨by (with_reducible repeat (first | apply Kd.S_alloc | apply Kd.S_drewN | apply Kd.S_drew)); exact HO_4.out⟩, ⟨qr_ HO_108003⟩, ⟨qk_ BK107⟩, ⟨qBHB⟩⟩
          case rest =>
           clear HC36
           try clear c1
           try clear p1
           try clear q1
           try clear hx1
           try clear c2
           try clear p2
           try clear c3
           try clear c4
           try clear c4b0
           try clear c5
           try clear c5b0
           try clear p6
           try clear p10
           try clear q10
           try clear hx10
           try clear p11
           try clear q11
           try clear hx11
           try clear c13
           try clear c14
           try clear c14b0
           try clear c14b1
           try clear c15
           try clear c15b0
           try clear c15b1
           try clear c18
           try clear c18b0
           try clear c19
           try clear c19b0
           try clear c20
           try clear c22
           try clear c23
           try clear c23b0
           try clear c23b1
           try clear c28
           try clear c39
           try clear c39b0
           try clear c39b1
           try clear c40
           try clear c40b0
           try clear c40b1
           try clear hcz12_0 hcz12_1 hcz12_2 hcz12_3
           try clear hcz16_0 hcz16_1 hcz16_2 hcz16_3
           try clear hcz17_0 hcz17_1 hcz17_2 hcz17_3
           try clear hcz26_0 hcz26_1 hcz26_2 hcz26_3
           try clear hcz31_0 hcz31_1 hcz31_2 hcz31_3
           try clear hcz34_0 hcz34_1 hcz34_2 hcz34_3
           try clear hfz12_0
           try clear hfz16_0
           try clear hfz17_0
           try clear hfz26_0
           try clear hfz31_0
           try clear hfz34_0
           try clear hx108_0
           try clear hx110_0
           try clear p1
           try clear p10
           try clear p108
           try clear p110
           try clear p2
           try clear p6
           try clear q1
           try clear q10
           try clear q108
           try clear q110
           obtain ⟨kq, x68_35, rfl, HA, HJ35, HO_4, HO_108003, BK107, HB⟩ := hcut
           cases kq with
           | zero => exact absurd HA.out (by simp [spec_l11Search.j2])
           | succ kj35 =>
            have H := HA.out; clear HA; simp only [spec_l11Search.j2] at H; by_cases c41 : x68_35 = true
            ·subst c41
             have H1 : (if (wrap64 (x5_6 + 1)) = (l0.length : Int) then (some (x4_1, false)) else (if 0 ≤ (wrap64 (x5_6 + 1)) then (if (wrap64 (x5_6 + 1)) < (l0.length : Int) then (if (x4_1.length : Int) = 20 then (some (x4_1, false)) else (if x4_1.length < 2199023255552 then (spec_l11Search.l0 kj35 l0 (x4_1 ++ [(⟨x108000_6, t111, rdOf ByteArray.empty l0 (wrap64 (x5_6 + 1)), y104⟩ : S37)]) (wrap64 ((wrap64 (x5_6 + 1)) + 1))) else (none))) else (none)) else (none))) = some (r1, r2) := by rw [if_pos rfl] at H; exact H
             clear H; have H := H1; clear H1; by_cases c42 : (wrap64 (x5_6 + 1)) = (l0.length : Int)
             ·rw [if_pos c42] at H
              have c42b0 : ((wrap64 (x5_6 + 1)) == (l0.length : Int)) = true := beq_iff_eq.mpr c42; have c42b1 : ((wrap64 (x5_6 + 1)) != (l0.length : Int)) = false := bne_eq_false_iff_eq.mpr c42; clear c42; simp only [Option.some.injEq, Prod.mk.injEq] at H; obtain ⟨rfl, rfl⟩ := H
              go_wp2
              go_ret2
              exact ⟨_, qee_, by (with_reducible repeat (first | apply Kd.S_alloc | apply Kd.S_drewN | apply Kd.S_drew)); exact Kd.S_mono HO_4.out (fun _ hk => trivial), qBHB⟩
             ·rw [if_neg c42] at H
              have c42b0 : ((wrap64 (x5_6 + 1)) == (l0.length : Int)) = false := beq_eq_false_iff_ne.mpr c42; have c42b1 : ((wrap64 (x5_6 + 1)) != (l0.length : Int)) = true := bne_iff_ne.mpr c42
              obtain ⟨ji43, hji43⟩ : ∃ j_ : Int, (wrap64 (x5_6 + 1)) = j_ := ⟨_, rfl⟩
              replace H : (if 0 ≤ (ji43) then (if (ji43) < (l0.length : Int) then (if (x4_1.length : Int) = 20 then (some (x4_1, false)) else (if x4_1.length < 2199023255552 then (spec_l11Search.l0 kj35 l0 (x4_1 ++ [(⟨x108000_6, t111, rdOf ByteArray.empty l0 (ji43), y104⟩ : S37)]) (wrap64 ((ji43) + 1))) else (none))) else (none)) else (none)) = some (r1, r2) := qj_ hji43 H
              (try rw [hji43] at c42b0)
              (try rw [hji43] at c42b1)
              have hji43w : (IntKind.i64.wrap (x5_6 + 1)) = ji43 := (i64_w _).trans hji43; by_cases c44 : 0 ≤ (ji43)
              ·rw [if_pos c44] at H
               have c44b0 : decide (0 ≤ (ji43)) = true := decide_eq_true c44; clear c44; by_cases c45 : (ji43) < (l0.length : Int)
               ·rw [if_pos c45] at H
                have c45b0 : decide ((ji43) < (l0.length : Int)) = true := decide_eq_true c45; clear c45; by_cases c46 : (x4_1.length : Int) = 20
                ·rw [if_pos c46] at H
                 have c46b0 : ((x4_1.length : Int) == 20) = true := beq_iff_eq.mpr c46; have c46b1 : ((x4_1.length : Int) != 20) = false := bne_eq_false_iff_eq.mpr c46; clear c46; simp only [Option.some.injEq, Prod.mk.injEq] at H; obtain ⟨rfl, rfl⟩ := H; obtain ⟨hcz47_0, hcz47_1, hcz47_2, hcz47_3, hfz47_0⟩ := qc4_ BK107; have p116 : 0 ≤ ((ji43) : Int) := qd_; have q116 : (ji43) < (l0.length : Int) := qd_; obtain ⟨ad116, e116, hx116_0⟩ := Kd.at_string HR0.out (ji43) p116 q116; obtain rfl : ad108 = ad116 := (by injection e116); have hn116_0 : ad108.block ≠ gb107 := Nat.ne_of_lt (Nat.lt_of_lt_of_le (by have := World.block_lt_of_cell? _ _ hx116_0; first | rwa [add_block] at this | exact this) GW107.out)
                 replace hx116_0 := (HB.out.cell (World.block_lt_of_cell? w _ hx116_0)).trans hx116_0; replace hx116_0 := (cell_far (p := ⟨gb107, 1, none⟩) (by first | (rw [add_block]; exact hn116_0) | (show (Addr.add _ _).block ≠ _; rw [add_block]; exact hn116_0) | exact hn116_0) (.string t111)).trans hx116_0
                 clear hn116_0; replace p116 := eq_true p116; replace q116 := eq_true q116; obtain ⟨Ao48, co48, eo48⟩ := Kd.S_slice HO_4.out; subst eo48
                 go_wp2
                 go_ret2
                 exact ⟨_, by first | rfl | (simp [errW_none, errW_some] <;> rfl) | (simp only [← hji43]; first | rfl | (simp [errW_none, errW_some] <;> rfl)) | (simp [*, errW_none, errW_some] <;> rfl), by (with_reducible repeat (first | apply Kd.S_alloc | apply Kd.S_drewN | apply Kd.S_drew)); exact Kd.S_mono (Kd.S_far (p := ⟨gb107, 2, none⟩) (Kd.S_far (p := ⟨gb107, 1, none⟩) (Kd.S_mono HO_4.out (fun k_ hk => (⟨hk, hk.2⟩ : _ ∧ k_ ≠ gb107))) (fun _ hk => hk.2) (.string t111)) (fun _ hk => hk.2) (.string (rdOf ByteArray.empty l0 (ji43)))) (fun _ hk => trivial), qBHB⟩
                ·rw [if_neg c46] at H
                 have c46b0 : ((x4_1.length : Int) == 20) = false := beq_eq_false_iff_ne.mpr c46; have c46b1 : ((x4_1.length : Int) != 20) = true := bne_iff_ne.mpr c46; by_cases c49 : x4_1.length < 2199023255552
                 ·rw [if_pos c49] at H
                  have LMc49 := Aside0.mk c49; clear c49
                  obtain ⟨y117, hy117⟩ : ∃ y_ : List (S37), y_ = (x4_1 ++ [(⟨x108000_6, t111, rdOf ByteArray.empty l0 (ji43), y104⟩ : S37)]) := ⟨_, rfl⟩
                  replace H : (spec_l11Search.l0 kj35 l0 y117 (wrap64 ((ji43) + 1))) = some (r1, r2) := qh_ hy117 H; have Ny117 := Aside0.mk hy117; clear hy117; have H' := Aside0.mk H; clear H; obtain ⟨hcz50_0, hcz50_1, hcz50_2, hcz50_3, hfz50_0⟩ := qc4_ BK107
                  go_wp2_with (first | ((with_reducible refine gate_store (t := 9) (p := 87) rfl ?_); refine store_event (t := 9) (p := 87) (v := ?vo_w51) (w1 := (wc.setCell ⟨gb107, 1, none⟩ (.string t111))) ?Hg ?Ho ?Hn ?Hr ?_; (case Ho => rfl); (case Hg => rfl); (case Hn => rfl); (case Hr => first | (go_simp; done) | (go_simp; rfl)); intro w51 hw; replace HO_4 : Aside0 (Kd.S k37 37 w51 w.heap.size (fun k_ => some k_ ≠ (.slice Ao10 y104.length co10 : Value).ownBlock ∧ k_ ≠ gb107) u4 x4_1) := ⟨(by rw [hw]; exact (by (with_reducible repeat (first | apply Kd.S_alloc | apply Kd.S_drewN | apply Kd.S_drew)); exact Kd.S_mono (Kd.S_far (p := ⟨gb107, 1, none⟩) (Kd.S_mono HO_4.out (fun k_ hk => (⟨hk, hk.2⟩ : _ ∧ k_ ≠ gb107))) (fun _ hk => hk.2) (.string t111)) (fun _ hk => ⟨hk.1.1, hk.1.2⟩)))⟩; replace HO_108003 : Aside0 (Kd.R k49 49 w51 w.heap.size (fun _ => True) (.slice Ao10 y104.length co10) y104) := ⟨(by rw [hw]; exact (by (with_reducible repeat (first | apply Kd.R_alloc | apply Kd.R_drewN | apply Kd.R_drew)); exact Kd.R_mono (qf1_ HO_108003 BK107) (fun _ hk => trivial)))⟩; replace BK107 : Aside0 (w51.heap[gb107]? = some (.cells #[.bool x108000_6, .string t111, .string (⟨#[]⟩ : BA_), .slice Ao10 y104.length co10] 37 (0, 0))) := ⟨(by rw [hw]; exact (qp_ BK107))⟩; replace HB : Aside0 (Below w.heap.size w w51) := ⟨(by rw [hw]; exact qBHB)⟩; clear hw; have p116 : 0 ≤ ((ji43) : Int) := qd_; have q116 : (ji43) < (l0.length : Int) := qd_; obtain ⟨ad116, e116, hx116_0⟩ := Kd.at_string HR0.out (ji43) p116 q116; obtain rfl : ad108 = ad116 := (by injection e116); replace hx116_0 := (HB.out.cell (World.block_lt_of_cell? w _ hx116_0)).trans hx116_0; replace p116 := eq_true p116; replace q116 := eq_true q116; obtain ⟨hcz52_0, hcz52_1, hcz52_2, hcz52_3, hfz52_0⟩ := qc4_ BK107) | ((with_reducible refine gate_store (t := 9) (p := 92) rfl ?_); refine store_event (t := 9) (p := 92) (v := ?vo_w53) (w1 := (w51.setCell ⟨gb107, 2, none⟩ (.string (rdOf ByteArray.empty l0 (ji43))))) ?Hg ?Ho ?Hn ?Hr ?_; (case Ho => rfl); (case Hg => rfl); (case Hn => rfl); (case Hr => first | (go_simp; done) | (go_simp; rfl)); intro w53 hw; replace HO_4 : Aside0 (Kd.S k37 37 w53 w.heap.size (fun k_ => some k_ ≠ (.slice Ao10 y104.length co10 : Value).ownBlock ∧ k_ ≠ gb107) u4 x4_1) := ⟨(by rw [hw]; exact (by (with_reducible repeat (first | apply Kd.S_alloc | apply Kd.S_drewN | apply Kd.S_drew)); exact Kd.S_mono (Kd.S_far (p := ⟨gb107, 2, none⟩) (Kd.S_mono HO_4.out (fun k_ hk => (⟨hk, hk.2⟩ : _ ∧ k_ ≠ gb107))) (fun _ hk => hk.2) (.string (rdOf ByteArray.empty l0 (ji43)))) (fun _ hk => ⟨hk.1.1, hk.1.2⟩)))⟩; replace HO_108003 : Aside0 (Kd.R k49 49 w53 w.heap.size (fun _ => True) (.slice Ao10 y104.length co10) y104) := ⟨(by rw [hw]; exact (by (with_reducible repeat (first | apply Kd.R_alloc | apply Kd.R_drewN | apply Kd.R_drew)); exact Kd.R_mono (qf1_ HO_108003 BK107) (fun _ hk => trivial)))⟩; replace BK107 : Aside0 (w53.heap[gb107]? = some (.cells #[.bool x108000_6, .string t111, .string (rdOf ByteArray.empty l0 (ji43)), .slice Ao10 y104.length co10] 37 (0, 0))) := ⟨(by rw [hw]; exact (qp_ BK107))⟩; replace HB : Aside0 (Below w.heap.size w w53) := ⟨(by rw [hw]; exact qBHB)⟩; clear hw; obtain ⟨Ao54, co54, eo54⟩ := Kd.S_slice HO_4.out; subst eo54; obtain ⟨hcz55_0, hcz55_1, hcz55_2, hcz55_3, hfz55_0⟩ := qc4_ BK107) | ((with_reducible refine gate_builtin (b := .append) (xs := #[.tmp 97, .tmp 99]) rfl ?_); at_builtin; refine Kd.S_append k37 (w0 := w) w.heap.size rfl (.tmp 97) (.tmp 99) 24 37 (.agg #[(.bool false), (.string ⟨#[]⟩), (.string ⟨#[]⟩), (.slice none 0 0)]) 64 rfl Tryd.underlying24 info37 rfl (by decide) (by omega) (.slice Ao54 x4_1.length co54) x4_1 (⟨x108000_6, t111, rdOf ByteArray.empty l0 (ji43), y104⟩ : S37) [.bool x108000_6, .string t111, .string (rdOf ByteArray.empty l0 (ji43)), .slice Ao10 y104.length co10] (fun k_ => k_ ≠ gb107) (fun k_ => some k_ = (.slice Ao10 y104.length co10 : Value).ownBlock) rfl rfl ?aP (fun k_ hk_ => ((Kd.R_mono (ok' := fun k_ => ((fun k_ => k_ ≠ gb107)) k_ ∧ some k_ ≠ (.slice Ao54 x4_1.length co54 : Value).ownBlock) (Kd.R_types (Kd.R_apart' (HO_108003.out) (Kd.S_typed HO_4.out) (by decide)) BK107.out (by decide)) (fun k_ hk => ⟨hk.2, hk.1.2⟩))).1 k_ hk_.symm) ?aF ?aO ?aB ?aS ?aL ?_; (case aP => exact k37_mkM _ _ _ (⟨x108000_6, t111, rdOf ByteArray.empty l0 (ji43), y104⟩ : S37) (Kd.R_mono (Kd.R_tight rfl (Kd.R_mono (ok' := fun k_ => ((fun k_ => k_ ≠ gb107)) k_ ∧ some k_ ≠ (.slice Ao54 x4_1.length co54 : Value).ownBlock) (Kd.R_types (Kd.R_apart' (HO_108003.out) (Kd.S_typed HO_4.out) (by decide)) BK107.out (by decide)) (fun k_ hk => ⟨hk.2, hk.1.2⟩))) (fun _ h_ => h_))); (case aB => exact qBHB); (case aF => exact (fun k_ hk => Kd.freshB (qk_ BK107) k_ hk)); (case aO => exact (by (with_reducible repeat (first | apply Kd.S_alloc | apply Kd.S_drewN | apply Kd.S_drew)); exact Kd.S_mono HO_4.out (fun k_ hk => ⟨hk.2, fun e_ => hk.1 e_⟩))); (case aS => exact (below_size qBHB)); (case aL => have := LMc49.out; omega); intro v118 w56 ho hb hg hat; rw [← Ny117.out] at ho; replace BK107 := Aside0.mk (blk_grown (qk_ BK107) hg (Kd.S_away HO_4.out (fun _ hk => hk.2))); replace HB := Aside0.mk (hb); have HO119 := Aside0.mk (ho); clear HO_4 HO_108003; clear ho hb hg hat))
                  go_roundg kj35
                  case measure => have := HK1.out; have := HJ6.out; have := HJ35.out; omega
                  case rel => exact ⟨(y117), (wrap64 ((ji43) + 1)), (by first | rfl | (simp; done) | (simp only [← hji43] <;> (first | rfl | simp)) | (simp [*]; done)), H', ⟨by have := HK1.out; have := HJ6.out; have := HJ35.out; omega⟩, ⟨by (with_reducible repeat (first | apply Kd.S_alloc | apply Kd.S_drewN | apply Kd.S_drew)); exact Kd.S_mono HO119.out (fun _ hk => trivial)⟩, ⟨qBHB⟩⟩
                 ·rw [if_neg c49] at H
                  exact absurd H (by simp)
               ·rw [if_neg c45] at H
                exact absurd H (by simp)
              ·rw [if_neg c44] at H
               exact absurd H (by simp)
            ·replace c41 := Bool.eq_false_iff.mpr c41
             subst c41
             have H1 : (if t111.toList = ([85, 73, 68] : List UInt8) then (if (wrap64 (x5_6 + 1)) = (l0.length : Int) then (some (x4_1, false)) else (spec_l11Search.j3 kj35 l0 x4_1 (wrap64 (x5_6 + 1)) x108000_6 t111 (⟨#[]⟩ : BA_) y104)) else (spec_l11Search.j3 kj35 l0 x4_1 x5_6 x108000_6 (⟨#[83, 69, 84]⟩ : BA_) (⟨#[]⟩ : BA_) y104)) = some (r1, r2) := by rw [if_neg (show ¬ (false = true) by decide)] at H; exact H
             clear H; have H := H1; clear H1; have HC57 := Aside0.mk H; clear H; obtain ⟨hcz58_0, hcz58_1, hcz58_2, hcz58_3, hfz58_0⟩ := qc4_ BK107
             go_upto_if 40 with (fail)
             go_cut [5] (fun v5 wc => ∃ (kq : Nat) (x5_56 : Int) (x108001_56 : ByteArray), v5 = .int .i64 x5_56 ∧ Aside0 (spec_l11Search.j3 kq l0 x4_1 x5_56 x108000_6 x108001_56 (⟨#[]⟩ : BA_) y104 = some (r1, r2)) ∧ Aside0 (kq ≤ kj35) ∧ Aside0 (Kd.S k37 37 wc w.heap.size (fun k_ => some k_ ≠ ((.slice Ao10 y104.length co10) : Value).ownBlock ∧ k_ ≠ gb107) u4 x4_1) ∧ Aside0 (Kd.R k49 49 wc w.heap.size (fun _ => True) (.slice Ao10 y104.length co10) y104) ∧ Aside0 (wc.heap[gb107]? = some (.cells #[.bool x108000_6, .string x108001_56, .string (⟨#[]⟩ : BA_), (.slice Ao10 y104.length co10)] 37 (0, 0))) ∧ Aside0 (Below w.heap.size w wc))
             case first =>
              have H := HC57.out; clear HC57; by_cases c59 : t111.toList = ([85, 73, 68] : List UInt8)
              ·rw [if_pos c59] at H
               have c59b0 : (t111.toList == ([85, 73, 68] : List UInt8)) = true := beq_iff_eq.mpr c59; have c59b1 : (t111.toList != ([85, 73, 68] : List UInt8)) = false := bne_eq_false_iff_eq.mpr c59; clear c59
               (first | rw [c59b0] | (simp only [i64_w, i32_w]; rw [c59b0]) | skip)
               by_cases c60 : (wrap64 (x5_6 + 1)) = (l0.length : Int)
               ·rw [if_pos c60] at H
                have c60b0 : ((wrap64 (x5_6 + 1)) == (l0.length : Int)) = true := beq_iff_eq.mpr c60; have c60b1 : ((wrap64 (x5_6 + 1)) != (l0.length : Int)) = false := bne_eq_false_iff_eq.mpr c60; clear c60; simp only [Option.some.injEq, Prod.mk.injEq] at H; obtain ⟨rfl, rfl⟩ := H; obtain ⟨hcz61_0, hcz61_1, hcz61_2, hcz61_3, hfz61_0⟩ := qc4_ BK107
                go_wp2
                go_ret2
                exact ⟨_, qee_, by (with_reducible repeat (first | apply Kd.S_alloc | apply Kd.S_drewN | apply Kd.S_drew)); exact Kd.S_mono (Kd.S_far (p := ⟨gb107, 1, none⟩) (Kd.S_far (p := ⟨gb107, 1, none⟩) (Kd.S_mono HO_4.out (fun k_ hk => (⟨hk, hk.2⟩ : _ ∧ k_ ≠ gb107))) (fun _ hk => hk.2) (.string (⟨#[83, 69, 84]⟩ : BA_))) (fun _ hk => hk.2) (.string t111)) (fun _ hk => trivial), qBHB⟩
               ·rw [if_neg c60] at H
                have c60b0 : ((wrap64 (x5_6 + 1)) == (l0.length : Int)) = false := beq_eq_false_iff_ne.mpr c60; have c60b1 : ((wrap64 (x5_6 + 1)) != (l0.length : Int)) = true := bne_iff_ne.mpr c60; have H' := Aside0.mk H; clear H; obtain ⟨hcz62_0, hcz62_1, hcz62_2, hcz62_3, hfz62_0⟩ := qc4_ BK107
                go_wp2
                go_meet
                case rel => exact ⟨_, (wrap64 (x5_6 + 1)), (t111), qff_, H', ⟨by have := HK1.out; have := HJ6.out; have := HJ35.out; first | omega | exact Nat.le_refl _⟩, ⟨by (with_reducible repeat (first | apply Kd.S_alloc | apply Kd.S_drewN | apply Kd.S_drew)); exact Kd.S_mono (Kd.S_far (p := ⟨gb107, 1, none⟩) (Kd.S_far (p := ⟨gb107, 1, none⟩) (Kd.S_mono HO_4.out (fun k_ hk => (⟨hk, hk.2⟩ : _ ∧ k_ ≠ gb107))) (fun _ hk => hk.2) (.string (⟨#[83, 69, 84]⟩ : BA_))) (fun _ hk => hk.2) (.string t111)) (fun _ hk => ⟨hk.1.1, hk.1.2⟩)⟩, ⟨by (with_reducible repeat (first | apply Kd.R_alloc | apply Kd.R_drewN | apply Kd.R_drew)); exact Kd.R_mono (qf2_ HO_108003 BK107) (fun _ hk => trivial)⟩, ⟨qp_ BK107⟩, ⟨qBHB⟩⟩
              ·rw [if_neg c59] at H
               have c59b0 : (t111.toList == ([85, 73, 68] : List UInt8)) = false := beq_eq_false_iff_ne.mpr c59; have c59b1 : (t111.toList != ([85, 73, 68] : List UInt8)) = true := bne_iff_ne.mpr c59
               (first | rw [c59b0] | (simp only [i64_w, i32_w]; rw [c59b0]) | skip)
               have H' := Aside0.mk H; clear H
               go_wp2
               go_meet
               case rel => exact ⟨_, (x5_6), ((⟨#[83, 69, 84]⟩ : BA_)), qff_, H', ⟨by have := HK1.out; have := HJ6.out; have := HJ35.out; first | omega | exact Nat.le_refl _⟩, ⟨by (with_reducible repeat (first | apply Kd.S_alloc | apply Kd.S_drewN | apply Kd.S_drew)); exact Kd.S_mono (Kd.S_far (p := ⟨gb107, 1, none⟩) (Kd.S_mono HO_4.out (fun k_ hk => (⟨hk, hk.2⟩ : _ ∧ k_ ≠ gb107))) (fun _ hk => hk.2) (.string (⟨#[83, 69, 84]⟩ : BA_))) (fun _ hk => ⟨hk.1.1, hk.1.2⟩)⟩, ⟨by (with_reducible repeat (first | apply Kd.R_alloc | apply Kd.R_drewN | apply Kd.R_drew)); exact Kd.R_mono (qf1_ HO_108003 BK107) (fun _ hk => trivial)⟩, ⟨qp_ BK107⟩, ⟨qBHB⟩⟩
             case rest =>
              clear HC57
              try clear c1
              try clear p1
              try clear q1
              try clear hx1
              try clear c2
              try clear p2
              try clear c3
              try clear c4
              try clear c4b0
              try clear c5
              try clear c5b0
              try clear c6
              try clear p6
              try clear p10
              try clear q10
              try clear hx10
              try clear p11
              try clear q11
              try clear hx11
              try clear c13
              try clear c14
              try clear c14b0
              try clear c14b1
              try clear c15
              try clear c15b0
              try clear c15b1
              try clear c18
              try clear c18b0
              try clear c19
              try clear c19b0
              try clear c20
              try clear c22
              try clear c23
              try clear c23b0
              try clear c23b1
              try clear c28
              try clear c39
              try clear c39b0
              try clear c39b1
              try clear c40
              try clear c40b0
              try clear c40b1
              try clear c41
              try clear c42
              try clear c42b0
              try clear c42b1
              try clear c44
              try clear c44b0
              try clear c45
              try clear c45b0
              try clear c46
              try clear c46b0
              try clear c46b1
              try clear c49
              try clear c59
              try clear c59b0
              try clear c59b1
              try clear c60
              try clear c60b0
              try clear c60b1
              try clear hcz12_0 hcz12_1 hcz12_2 hcz12_3
              try clear hcz16_0 hcz16_1 hcz16_2 hcz16_3
              try clear hcz17_0 hcz17_1 hcz17_2 hcz17_3
              try clear hcz26_0 hcz26_1 hcz26_2 hcz26_3
              try clear hcz31_0 hcz31_1 hcz31_2 hcz31_3
              try clear hcz34_0 hcz34_1 hcz34_2 hcz34_3
              try clear hcz47_0 hcz47_1 hcz47_2 hcz47_3
              try clear hcz50_0 hcz50_1 hcz50_2 hcz50_3
              try clear hcz52_0 hcz52_1 hcz52_2 hcz52_3
              try clear hcz55_0 hcz55_1 hcz55_2 hcz55_3
              try clear hcz58_0 hcz58_1 hcz58_2 hcz58_3
              try clear hcz61_0 hcz61_1 hcz61_2 hcz61_3
              try clear hcz62_0 hcz62_1 hcz62_2 hcz62_3
              try clear hfz12_0
              try clear hfz16_0
              try clear hfz17_0
              try clear hfz26_0
              try clear hfz31_0
              try clear hfz34_0
              try clear hfz47_0
              try clear hfz50_0
              try clear hfz52_0
              try clear hfz55_0
              try clear hfz58_0
              try clear hfz61_0
              try clear hfz62_0
              try clear hx108_0
              try clear hx110_0
              try clear hx116_0
              try clear p1
              try clear p10
              try clear p108
              try clear p11
              try clear p110
              try clear p116
              try clear p2
              try clear p6
              try clear q1
              try clear q10
              try clear q108
              try clear q11
              try clear q110
              try clear q116
              obtain ⟨kq, x5_56, x108001_56, rfl, HA, HJ56, HO_4, HO_108003, BK107, HB⟩ := hcut
              cases kq with
              | zero => exact absurd HA.out (by simp [spec_l11Search.j3])
              | succ kj56 =>
               have H := HA.out; clear HA; simp only [spec_l11Search.j3] at H; by_cases c63 : 0 ≤ x5_56
               ·rw [if_pos c63] at H
                have c63b0 : decide (0 ≤ x5_56) = true := decide_eq_true c63; clear c63; by_cases c64 : x5_56 < (l0.length : Int)
                ·rw [if_pos c64] at H
                 have c64b0 : decide (x5_56 < (l0.length : Int)) = true := decide_eq_true c64; clear c64; replace H := Option.bind_eq_some_iff.mp H; obtain ⟨⟨t121, t122⟩, A650, H⟩ := H; dsimp only at H; have A65 := Aside0.mk A650; clear A650; by_cases c66 : t122 = true
                 ·subst c66
                  have H1 : (if (x4_1.length : Int) = 20 then (some (x4_1, false)) else (if x4_1.length < 2199023255552 then (spec_l11Search.l0 kj56 l0 (x4_1 ++ [(⟨x108000_6, x108001_56, (⟨#[]⟩ : BA_), t121⟩ : S37)]) (wrap64 (x5_56 + 1))) else (none))) = some (r1, r2) := by rw [if_pos rfl] at H; exact H
                  clear H; have H := H1; clear H1; by_cases c67 : (x4_1.length : Int) = 20
                  ·rw [if_pos c67] at H
                   have c67b0 : ((x4_1.length : Int) == 20) = true := beq_iff_eq.mpr c67; have c67b1 : ((x4_1.length : Int) != 20) = false := bne_eq_false_iff_eq.mpr c67; clear c67; simp only [Option.some.injEq, Prod.mk.injEq] at H; obtain ⟨rfl, rfl⟩ := H; have p120 : 0 ≤ (x5_56 : Int) := qd_; have q120 : x5_56 < (l0.length : Int) := qd_; obtain ⟨ad120, e120, hx120_0⟩ := Kd.at_string HR0.out x5_56 p120 q120; obtain rfl : ad108 = ad120 := (by injection e120); replace hx120_0 := (HB.out.cell (World.block_lt_of_cell? w _ hx120_0)).trans hx120_0; replace p120 := eq_true p120; replace q120 := eq_true q120
                   go_wp2_with (first | ((with_reducible refine gate_callee (f := 21) rfl ?_); refine goesL_ (some 55) rfl rfl Tryd.func21 qK rfl #[.string (rdOf ByteArray.empty l0 x5_56)] rfl qll_ ?_; (with_reducible refine (spec_l11Set.calls kj56 (rdOf ByteArray.empty l0 x5_56) t121 true _ A65.out).mono ?_); rintro e w68 ⟨v123, rfl, ho0, hb⟩; refine ⟨_, rfl, ?_⟩; replace HO_4 := Aside0.mk (Kd.S_elder' (by (with_reducible repeat (first | apply Kd.S_alloc | apply Kd.S_drewN | apply Kd.S_drew)); exact HO_4.out) (Kd.R_base ho0) hb); have HO124 := Aside0.mk (Kd.R_lower (Kd.R_new' ho0 (Kd.R_lt (qr_ HO_108003))) (below_size qBHB)); replace HO_108003 := Aside0.mk (Kd.R_elder' (qr_ HO_108003) (Kd.R_base ho0) hb); replace BK107 := Aside0.mk (blk_below (qk_ BK107) hb); replace HB := Aside0.mk (below_step qBHB hb); (try clear hb); (try clear hb2); (try clear hk); (try clear hi); (try clear ho0); obtain ⟨Ao69, co69, eo69⟩ := Kd.R_slice HO124.out; subst eo69; obtain ⟨hcz70_0, hcz70_1, hcz70_2, hcz70_3, hfz70_0⟩ := qc4_ BK107; obtain ⟨Ao71, co71, eo71⟩ := Kd.S_slice HO_4.out; subst eo71))
                   go_ret2
                   exact ⟨_, qee_, by (with_reducible repeat (first | apply Kd.S_alloc | apply Kd.S_drewN | apply Kd.S_drew)); exact Kd.S_mono (Kd.S_far (p := ⟨gb107, 3, none⟩) (Kd.S_mono HO_4.out (fun k_ hk => (⟨hk, hk.1.2⟩ : _ ∧ k_ ≠ gb107))) (fun _ hk => hk.2) (.slice Ao69 t121.length co69)) (fun _ hk => trivial), qBHB⟩
                  ·rw [if_neg c67] at H
                   have c67b0 : ((x4_1.length : Int) == 20) = false := beq_eq_false_iff_ne.mpr c67; have c67b1 : ((x4_1.length : Int) != 20) = true := bne_iff_ne.mpr c67; by_cases c72 : x4_1.length < 2199023255552
                   ·rw [if_pos c72] at H
                    have LMc72 := Aside0.mk c72; clear c72
                    obtain ⟨y125, hy125⟩ : ∃ y_ : List (S37), y_ = (x4_1 ++ [(⟨x108000_6, x108001_56, (⟨#[]⟩ : BA_), t121⟩ : S37)]) := ⟨_, rfl⟩
                    replace H : (spec_l11Search.l0 kj56 l0 y125 (wrap64 (x5_56 + 1))) = some (r1, r2) := qh_ hy125 H; have Ny125 := Aside0.mk hy125; clear hy125; have H' := Aside0.mk H; clear H; have p120 : 0 ≤ (x5_56 : Int) := qd_; have q120 : x5_56 < (l0.length : Int) := qd_; obtain ⟨ad120, e120, hx120_0⟩ := Kd.at_string HR0.out x5_56 p120 q120; obtain rfl : ad108 = ad120 := (by injection e120); replace hx120_0 := (HB.out.cell (World.block_lt_of_cell? w _ hx120_0)).trans hx120_0; replace p120 := eq_true p120; replace q120 := eq_true q120
                    go_wp2_with (first | ((with_reducible refine gate_callee (f := 21) rfl ?_); refine goesL_ (some 55) rfl rfl Tryd.func21 qK rfl #[.string (rdOf ByteArray.empty l0 x5_56)] rfl qll_ ?_; (with_reducible refine (spec_l11Set.calls kj56 (rdOf ByteArray.empty l0 x5_56) t121 true _ A65.out).mono ?_); rintro e w73 ⟨v123, rfl, ho0, hb⟩; refine ⟨_, rfl, ?_⟩; replace HO_4 := Aside0.mk (Kd.S_elder' (by (with_reducible repeat (first | apply Kd.S_alloc | apply Kd.S_drewN | apply Kd.S_drew)); exact HO_4.out) (Kd.R_base ho0) hb); have HO124 := Aside0.mk (Kd.R_lower (Kd.R_new' ho0 (Kd.R_lt (qr_ HO_108003))) (below_size qBHB)); replace HO_108003 := Aside0.mk (Kd.R_elder' (qr_ HO_108003) (Kd.R_base ho0) hb); replace BK107 := Aside0.mk (blk_below (qk_ BK107) hb); replace HB := Aside0.mk (below_step qBHB hb); (try clear hb); (try clear hb2); (try clear hk); (try clear hi); (try clear ho0); obtain ⟨Ao74, co74, eo74⟩ := Kd.R_slice HO124.out; subst eo74; obtain ⟨hcz75_0, hcz75_1, hcz75_2, hcz75_3, hfz75_0⟩ := qc4_ BK107) | ((with_reducible refine gate_store (t := 35) (p := 62) rfl ?_); refine store_event (t := 35) (p := 62) (v := ?vo_w76) (w1 := (w73.setCell ⟨gb107, 3, none⟩ (.slice Ao74 t121.length co74))) ?Hg ?Ho ?Hn ?Hr ?_; (case Ho => rfl); (case Hg => rfl); (case Hn => rfl); (case Hr => first | (go_simp; done) | (go_simp; rfl)); intro w76 hw; replace HO_4 : Aside0 (Kd.S k37 37 w76 w.heap.size (fun k_ => some k_ ≠ (.slice Ao10 y104.length co10 : Value).ownBlock ∧ some k_ ≠ (.slice Ao74 t121.length co74 : Value).ownBlock ∧ k_ ≠ gb107) u4 x4_1) := ⟨(by rw [hw]; exact (by (with_reducible repeat (first | apply Kd.S_alloc | apply Kd.S_drewN | apply Kd.S_drew)); exact Kd.S_mono (Kd.S_far (p := ⟨gb107, 3, none⟩) (Kd.S_mono HO_4.out (fun k_ hk => (⟨hk, hk.1.2⟩ : _ ∧ k_ ≠ gb107))) (fun _ hk => hk.2) (.slice Ao74 t121.length co74)) (fun _ hk => ⟨hk.1.1.1, ⟨hk.1.2, hk.1.1.2⟩⟩)))⟩; replace HO_108003 : Aside0 (Kd.R k49 49 w76 w.heap.size (fun k_ => some k_ ≠ (.slice Ao74 t121.length co74 : Value).ownBlock) (.slice Ao10 y104.length co10) y104) := ⟨(by rw [hw]; exact (by (with_reducible repeat (first | apply Kd.R_alloc | apply Kd.R_drewN | apply Kd.R_drew)); exact Kd.R_mono (qf1_ HO_108003 BK107) (fun _ hk => hk.1.2)))⟩; replace HO124 : Aside0 (Kd.R k49 49 w76 w.heap.size (fun k_ => some k_ ≠ (.slice Ao10 y104.length co10 : Value).ownBlock) (.slice Ao74 t121.length co74) t121) := ⟨(by rw [hw]; exact (by (with_reducible repeat (first | apply Kd.R_alloc | apply Kd.R_drewN | apply Kd.R_drew)); exact Kd.R_mono (qf1_ HO124 BK107) (fun _ hk => hk.1.2)))⟩; replace BK107 : Aside0 (w76.heap[gb107]? = some (.cells #[.bool x108000_6, .string x108001_56, .string (⟨#[]⟩ : BA_), .slice Ao74 t121.length co74] 37 (0, 0))) := ⟨(by rw [hw]; exact (qp_ BK107))⟩; replace HB : Aside0 (Below w.heap.size w w76) := ⟨(by rw [hw]; exact qBHB)⟩; clear hw; obtain ⟨Ao77, co77, eo77⟩ := Kd.S_slice HO_4.out; subst eo77; obtain ⟨hcz78_0, hcz78_1, hcz78_2, hcz78_3, hfz78_0⟩ := qc4_ BK107) | ((with_reducible refine gate_builtin (b := .append) (xs := #[.tmp 97, .tmp 99]) rfl ?_); at_builtin; refine Kd.S_append k37 (w0 := w) w.heap.size rfl (.tmp 97) (.tmp 99) 24 37 (.agg #[(.bool false), (.string ⟨#[]⟩), (.string ⟨#[]⟩), (.slice none 0 0)]) 64 rfl Tryd.underlying24 info37 rfl (by decide) (by omega) (.slice Ao77 x4_1.length co77) x4_1 (⟨x108000_6, x108001_56, (⟨#[]⟩ : BA_), t121⟩ : S37) [.bool x108000_6, .string x108001_56, .string (⟨#[]⟩ : BA_), .slice Ao74 t121.length co74] (fun k_ => some k_ ≠ (.slice Ao10 y104.length co10 : Value).ownBlock ∧ k_ ≠ gb107) (fun k_ => some k_ = (.slice Ao74 t121.length co74 : Value).ownBlock) rfl rfl ?aP (fun k_ hk_ => ((Kd.R_mono (ok' := fun k_ => ((fun k_ => some k_ ≠ (.slice Ao10 y104.length co10 : Value).ownBlock ∧ k_ ≠ gb107)) k_ ∧ some k_ ≠ (.slice Ao77 x4_1.length co77 : Value).ownBlock) (Kd.R_types (Kd.R_apart' (HO124.out) (Kd.S_typed HO_4.out) (by decide)) BK107.out (by decide)) (fun k_ hk => ⟨⟨hk.1.1, hk.2⟩, hk.1.2⟩))).1 k_ hk_.symm) ?aF ?aO ?aB ?aS ?aL ?_; (case aP => exact k37_mkM _ _ _ (⟨x108000_6, x108001_56, (⟨#[]⟩ : BA_), t121⟩ : S37) (Kd.R_mono (Kd.R_tight rfl (Kd.R_mono (ok' := fun k_ => ((fun k_ => some k_ ≠ (.slice Ao10 y104.length co10 : Value).ownBlock ∧ k_ ≠ gb107)) k_ ∧ some k_ ≠ (.slice Ao77 x4_1.length co77 : Value).ownBlock) (Kd.R_types (Kd.R_apart' (HO124.out) (Kd.S_typed HO_4.out) (by decide)) BK107.out (by decide)) (fun k_ hk => ⟨⟨hk.1.1, hk.2⟩, hk.1.2⟩))) (fun _ h_ => h_))); (case aB => exact qBHB); (case aF => exact (fun k_ hk => ⟨Kd.fresh' (Kd.R_lt (qr_ HO_108003)) k_ hk, Kd.freshB (qk_ BK107) k_ hk⟩)); (case aO => exact (by (with_reducible repeat (first | apply Kd.S_alloc | apply Kd.S_drewN | apply Kd.S_drew)); exact Kd.S_mono HO_4.out (fun k_ hk => ⟨⟨hk.1, hk.2.2⟩, fun e_ => hk.2.1 e_⟩))); (case aS => exact (below_size qBHB)); (case aL => have := LMc72.out; omega); intro v126 w79 ho hb hg hat; rw [← Ny125.out] at ho; replace HO_108003 := Aside0.mk (Kd.R_over' (qr_ HO_108003) (Kd.S_typed (by (with_reducible repeat (first | apply Kd.S_alloc | apply Kd.S_drewN | apply Kd.S_drew)); exact HO_4.out)) (by decide) hg); replace BK107 := Aside0.mk (blk_grown (qk_ BK107) hg (Kd.S_away HO_4.out (fun _ hk => hk.2.2))); replace HB := Aside0.mk (hb); have HO127 := Aside0.mk (ho); clear HO_4 HO124; clear ho hb hg hat))
                    go_roundg kj56
                    case measure => have := HK1.out; have := HJ6.out; have := HJ35.out; have := HJ56.out; omega
                    case rel => exact ⟨(y125), (wrap64 (x5_56 + 1)), qff_, H', ⟨by have := HK1.out; have := HJ6.out; have := HJ35.out; have := HJ56.out; omega⟩, ⟨by (with_reducible repeat (first | apply Kd.S_alloc | apply Kd.S_drewN | apply Kd.S_drew)); exact Kd.S_mono HO127.out (fun _ hk => trivial)⟩, ⟨qBHB⟩⟩
                   ·rw [if_neg c72] at H
                    exact absurd H (by simp)
                 ·replace c66 := Bool.eq_false_iff.mpr c66
                  subst c66
                  have H1 : (some (x4_1, false)) = some (r1, r2) := by rw [if_neg (show ¬ (false = true) by decide)] at H; exact H
                  clear H; have H := H1; clear H1; simp only [Option.some.injEq, Prod.mk.injEq] at H; obtain ⟨rfl, rfl⟩ := H; have p120 : 0 ≤ (x5_56 : Int) := qd_; have q120 : x5_56 < (l0.length : Int) := qd_; obtain ⟨ad120, e120, hx120_0⟩ := Kd.at_string HR0.out x5_56 p120 q120; obtain rfl : ad108 = ad120 := (by injection e120); replace hx120_0 := (HB.out.cell (World.block_lt_of_cell? w _ hx120_0)).trans hx120_0; replace p120 := eq_true p120; replace q120 := eq_true q120
                  go_wp2_with (first | ((with_reducible refine gate_callee (f := 21) rfl ?_); refine goesL_ (some 55) rfl rfl Tryd.func21 qK rfl #[.string (rdOf ByteArray.empty l0 x5_56)] rfl qll_ ?_; (with_reducible refine (spec_l11Set.calls kj56 (rdOf ByteArray.empty l0 x5_56) t121 false _ A65.out).mono ?_); rintro e w80 ⟨v123, rfl, ho0, hb⟩; refine ⟨_, rfl, ?_⟩; replace HO_4 := Aside0.mk (Kd.S_elder' (by (with_reducible repeat (first | apply Kd.S_alloc | apply Kd.S_drewN | apply Kd.S_drew)); exact HO_4.out) (Kd.R_base ho0) hb); have HO124 := Aside0.mk (Kd.R_lower (Kd.R_new' ho0 (Kd.R_lt (qr_ HO_108003))) (below_size qBHB)); replace HO_108003 := Aside0.mk (Kd.R_elder' (qr_ HO_108003) (Kd.R_base ho0) hb); replace BK107 := Aside0.mk (blk_below (qk_ BK107) hb); replace HB := Aside0.mk (below_step qBHB hb); (try clear hb); (try clear hb2); (try clear hk); (try clear hi); (try clear ho0)))
                  go_ret2
                  exact ⟨_, qee_, by (with_reducible repeat (first | apply Kd.S_alloc | apply Kd.S_drewN | apply Kd.S_drew)); exact Kd.S_mono HO_4.out (fun _ hk => trivial), qBHB⟩
                ·rw [if_neg c64] at H
                 exact absurd H (by simp)
               ·rw [if_neg c63] at H
                exact absurd H (by simp)
        ·rw [if_neg c19] at H
         exact absurd H (by simp)
       ·rw [if_neg c18] at H
        exact absurd H (by simp)
    ·rw [if_neg c5] at H
     exact absurd H (by simp)
   ·rw [if_neg c4] at H
    have c4b0 : decide (x5_1 < (l0.length : Int)) = false := decide_eq_false c4; clear c4; simp only [Option.some.injEq, Prod.mk.injEq] at H; obtain ⟨rfl, rfl⟩ := H; obtain ⟨Ao81, co81, eo81⟩ := Kd.S_slice HO_4.out; subst eo81
    go_wp2
    go_ret2
    exact ⟨_, qee_, by (with_reducible repeat (first | apply Kd.S_alloc | apply Kd.S_drewN | apply Kd.S_drew)); exact HO_4.out, qBHB⟩


/-! ### spec_ReadSearch: function 5 -/
def spec_ReadSearch.f (k : Nat) (l0 : List ByteArray) : Option ((List (S37)) × Int) := if (l0.length : Int) > 4096 then (some ((([] : List (S37))), 2)) else ((spec_l11Search.f k l0).bind fun bt104 => (if bt104.2 = true then (some (bt104.1, 0)) else (some ((([] : List (S37))), 3))))
theorem spec_ReadSearch.mono : ∀ a0 k, LeO (spec_ReadSearch.f k a0) (spec_ReadSearch.f (k + 1) a0) := by
 intro a0 k
 unfold spec_ReadSearch.f
 repeat' first
   | (with_reducible exact spec_l11Search.mono _ _)
   | (with_reducible exact LeO.refl _)
   | (with_reducible exact LeO.none _)
   | (with_reducible refine LeO.ite ?_ ?_)
   | (with_reducible refine LeO.bind ?_ (fun _ => ?_))
   | exact spec_l11Search.mono _ _
   | exact LeO.none _
   | refine LeO.ite ?_ ?_
   | refine LeO.bind ?_ (fun _ => ?_)
set_option maxHeartbeats 8000000 in
set_option maxRecDepth 100000 in
theorem spec_ReadSearch.calls (k : Nat) (A0 : Option Addr) (c0 : Nat) (l0 : List ByteArray) (r1 : List (S37)) (r2 : Int) (w : World) (hr0 : Kd.C Kd.string w A0 l0.length l0) (hc0 : l0.length ≤ c0) (h : spec_ReadSearch.f k l0 = some (r1, r2)) :
  Calls Tryd.prog 5 #[.slice A0 l0.length c0] w fun e w' => ∃ v0_ : Value, e = .returned (.tuple #[v0_, .int .i64 r2]) ∧ Kd.S k37 37 w' w.heap.size (fun _ => True) v0_ r1 ∧ Below w.heap.size w w' := by
 have HR0 := Aside0.mk hr0
 have HC0 := Aside0.mk hc0
 clear hr0 hc0
 have HB := Aside0.mk (Below.refl w.heap.size w)
 have H : (if (l0.length : Int) > 4096 then (some ((([] : List (S37))), 2)) else ((spec_l11Search.f k l0).bind fun bt104 => (if bt104.2 = true then (some (bt104.1, 0)) else (some ((([] : List (S37))), 3))))) = some (r1, r2) := h
 clear h
 by_cases c2 : (l0.length : Int) > 4096
 ·rw [if_pos c2] at H
  have c2b0 : decide (4096 < (l0.length : Int)) = true := decide_eq_true c2; have c2b1 : decide (4096 < l0.length) = true := decide_eq_true (by omega); clear c2
  obtain ⟨y101, hy101⟩ : ∃ y_ : List (S37), y_ = (([] : List (S37))) := ⟨_, rfl⟩
  replace H : (some (y101, 2)) = some (r1, r2) := qh_ hy101 H; have Ny101 := Aside0.mk hy101; clear hy101; simp only [Option.some.injEq, Prod.mk.injEq] at H; obtain ⟨rfl, rfl⟩ := H; go_enter Tryd.func5, Tryd.ntmps5
  go_wp2_with (first | ((with_reducible refine gate_dst (N := 9) rfl ?_); refine Kd.S_lit k37 _ 37 ?Hg (N := 9) ?Hd (xs := ([] : List (S37))) (inner := []) (ok := fun _ => True) (okp := fun _ => True) ?Hr ?Hp (fun _ hk => hk) trivial (Below.refl _ _) (Nat.le_refl _) (by simp) ?_; (case Hd => rfl); (case Hg => rfl); (case Hr => first | (go_simp; done) | (go_simp; rfl)); (case Hp => exact (Reps.none _ _)); intro v102 w3 ho4 hb hg_ hnew_; clear hg_ hnew_; (first | rw [← Ny101.out] at ho4 | (simp only [Int.reduceToNat] at ho4; rw [← Ny101.out] at ho4)); have HO103 := Aside0.mk (Kd.S_lower ho4 (below_size qBHB)); replace HB := Aside0.mk (below_step qBHB hb); clear hb ho4))
  go_ret2
  exact ⟨_, qee_, by (with_reducible repeat (first | apply Kd.S_alloc | apply Kd.S_drewN | apply Kd.S_drew)); exact HO103.out, qBHB⟩
 ·rw [if_neg c2] at H
  have c2b0 : decide (4096 < (l0.length : Int)) = false := decide_eq_false c2; have c2b1 : decide (4096 < l0.length) = false := decide_eq_false (by omega); clear c2; replace H := Option.bind_eq_some_iff.mp H; obtain ⟨⟨t104, t105⟩, A50, H⟩ := H; dsimp only at H; have A5 := Aside0.mk A50; clear A50; by_cases c6 : t105 = true
  ·subst c6
   have H1 : (some (t104, 0)) = some (r1, r2) := by rw [if_pos rfl] at H; exact H
   clear H; have H := H1; clear H1; simp only [Option.some.injEq, Prod.mk.injEq] at H; obtain ⟨rfl, rfl⟩ := H; go_enter Tryd.func5, Tryd.ntmps5
   go_wp2_with (first | ((with_reducible refine gate_callee (f := 13) rfl ?_); refine goesL_ (some 12) rfl rfl Tryd.func13 qK rfl #[.slice A0 l0.length c0] rfl qll_ ?_; (with_reducible refine (spec_l11Search.calls k _ _ l0 t104 true _ ?side1 ?side2 A5.out).mono ?_); (case side1 => exact qcc_ (HR0.out)); (case side2 => exact HC0.out); rintro e w7 ⟨v106, rfl, ho0, hb⟩; refine ⟨_, rfl, ?_⟩; have HO107 := Aside0.mk (Kd.S_lower ho0 (below_size qBHB)); replace HB := Aside0.mk (below_step qBHB hb); (try clear hb); (try clear hb2); (try clear hk); (try clear hi); (try clear ho0)))
   go_ret2
   exact ⟨_, qee_, by (with_reducible repeat (first | apply Kd.S_alloc | apply Kd.S_drewN | apply Kd.S_drew)); exact HO107.out, qBHB⟩
  ·replace c6 := Bool.eq_false_iff.mpr c6
   subst c6
   have H1 : (some ((([] : List (S37))), 3)) = some (r1, r2) := by rw [if_neg (show ¬ (false = true) by decide)] at H; exact H
   clear H; have H := H1; clear H1
   obtain ⟨y108, hy108⟩ : ∃ y_ : List (S37), y_ = (([] : List (S37))) := ⟨_, rfl⟩
   replace H : (some (y108, 3)) = some (r1, r2) := qh_ hy108 H; have Ny108 := Aside0.mk hy108; clear hy108; simp only [Option.some.injEq, Prod.mk.injEq] at H; obtain ⟨rfl, rfl⟩ := H; go_enter Tryd.func5, Tryd.ntmps5
   go_wp2_with (first | ((with_reducible refine gate_callee (f := 13) rfl ?_); refine goesL_ (some 12) rfl rfl Tryd.func13 qK rfl #[.slice A0 l0.length c0] rfl qll_ ?_; (with_reducible refine (spec_l11Search.calls k _ _ l0 t104 false _ ?side1 ?side2 A5.out).mono ?_); (case side1 => exact qcc_ (HR0.out)); (case side2 => exact HC0.out); rintro e w8 ⟨v106, rfl, ho0, hb⟩; refine ⟨_, rfl, ?_⟩; have HO107 := Aside0.mk (Kd.S_lower ho0 (below_size qBHB)); replace HB := Aside0.mk (below_step qBHB hb); (try clear hb); (try clear hb2); (try clear hk); (try clear hi); (try clear ho0)) | ((with_reducible refine gate_dst (N := 17) rfl ?_); refine Kd.S_lit k37 _ 37 ?Hg (N := 17) ?Hd (xs := ([] : List (S37))) (inner := []) (ok := fun _ => True) (okp := fun _ => True) ?Hr ?Hp (fun _ hk => hk) trivial (Below.refl _ _) (Nat.le_refl _) (by simp) ?_; (case Hd => rfl); (case Hg => rfl); (case Hr => first | (go_simp; done) | (go_simp; rfl)); (case Hp => exact (Reps.none _ _)); intro v109 w9 ho10 hb hg_ hnew_; clear hg_ hnew_; (first | rw [← Ny108.out] at ho10 | (simp only [Int.reduceToNat] at ho10; rw [← Ny108.out] at ho10)); have HO110 := Aside0.mk (Kd.S_lower (Kd.S_new' ho10 (Kd.S_lt (by (with_reducible repeat (first | apply Kd.S_alloc | apply Kd.S_drewN | apply Kd.S_drew)); exact HO107.out))) (below_size qBHB)); replace HO107 := Aside0.mk (Kd.S_elder' (by (with_reducible repeat (first | apply Kd.S_alloc | apply Kd.S_drewN | apply Kd.S_drew)); exact HO107.out) (Kd.S_base ho10) hb); replace HB := Aside0.mk (below_step qBHB hb); clear hb ho10))
   go_ret2
   exact ⟨_, qee_, by (with_reducible repeat (first | apply Kd.S_alloc | apply Kd.S_drewN | apply Kd.S_drew)); exact Kd.S_mono HO110.out (fun _ hk => trivial), qBHB⟩


/-! ### laws_toStringS: function 6 -/
def laws_toStringS.l0 : Nat → List ByteArray → List ByteArray → Int → Option (List ByteArray)
 | 0, _, _, _ => none
 | k + 1, x0, x3, x4 => if x4 < (x0.length : Int) then (if 0 ≤ x4 then (if x4 < (x3.length : Int) then (laws_toStringS.l0 k x0 (x3.set (x4 : Int).toNat (rdOf ByteArray.empty x0 x4)) (wrap64 (x4 + 1))) else (none)) else (none)) else (some x3)
def laws_toStringS.f (k : Nat) (l0 : List ByteArray) : Option (List ByteArray) := if 0 ≤ (l0.length : Int) then (if ((l0.length : Int) : Int).toNat ≤ 17592186044416 then (laws_toStringS.l0 k l0 (List.replicate ((l0.length : Int) : Int).toNat (⟨#[]⟩ : ByteArray)) 0) else (none)) else (none)
theorem laws_toStringS.mono_l : ∀ k, (∀ y0 y1 y2, LeO (laws_toStringS.l0 k y0 y1 y2) (laws_toStringS.l0 (k + 1) y0 y1 y2))
 | 0 => fun _ _ _ r h => by simp [laws_toStringS.l0] at h
 | k + 1 => by
  have ih0 := laws_toStringS.mono_l k
  ·intro y0 y1 y2
   unfold laws_toStringS.l0
   repeat' first
   | (with_reducible exact ih0 _ _ _)
   | (with_reducible exact LeO.refl _)
   | (with_reducible exact LeO.none _)
   | (with_reducible refine LeO.ite ?_ ?_)
   | (with_reducible refine LeO.bind ?_ (fun _ => ?_))
   | exact ih0 _ _ _
   | exact LeO.none _
   | refine LeO.ite ?_ ?_
   | refine LeO.bind ?_ (fun _ => ?_)
theorem laws_toStringS.mono : ∀ a0 k, LeO (laws_toStringS.f k a0) (laws_toStringS.f (k + 1) a0) := by
 intro a0 k
 have ih0 := laws_toStringS.mono_l k
 unfold laws_toStringS.f
 repeat' first
   | (with_reducible exact ih0 _ _ _)
   | (with_reducible exact LeO.refl _)
   | (with_reducible exact LeO.none _)
   | (with_reducible refine LeO.ite ?_ ?_)
   | (with_reducible refine LeO.bind ?_ (fun _ => ?_))
   | exact ih0 _ _ _
   | exact LeO.none _
   | refine LeO.ite ?_ ?_
   | refine LeO.bind ?_ (fun _ => ?_)
set_option maxHeartbeats 8000000 in
set_option maxRecDepth 100000 in
theorem laws_toStringS.calls (k : Nat) (A0 : Option Addr) (c0 : Nat) (l0 : List ByteArray) (r : List ByteArray) (w : World) (hr0 : Kd.C Kd.string w A0 l0.length l0) (hc0 : l0.length ≤ c0) (h : laws_toStringS.f k l0 = some r) :
  Calls Tryd.prog 6 #[.slice A0 l0.length c0] w fun e w' => ∃ v0_ : Value, e = .returned (v0_) ∧ Kd.R Kd.string 9 w' w.heap.size (fun _ => True) v0_ r ∧ Below w.heap.size w w' := by
 have HR0 := Aside0.mk hr0
 have HC0 := Aside0.mk hc0
 clear hr0 hc0
 have HB := Aside0.mk (Below.refl w.heap.size w)
 have H : (if 0 ≤ (l0.length : Int) then (if ((l0.length : Int) : Int).toNat ≤ 17592186044416 then (laws_toStringS.l0 k l0 (List.replicate ((l0.length : Int) : Int).toNat (⟨#[]⟩ : BA_)) 0) else (none)) else (none)) = some r := h
 clear h
 by_cases c2 : 0 ≤ (l0.length : Int)
 ·rw [if_pos c2] at H
  have c2b0 := eq_true c2; have c2b1 : decide (0 ≤ (l0.length : Int)) = true := decide_eq_true c2; clear c2; by_cases c3 : ((l0.length : Int) : Int).toNat ≤ 17592186044416
  ·rw [if_pos c3] at H
   have c3b0 := eq_true c3; have c3b1 : decide (((l0.length : Int) : Int).toNat ≤ 17592186044416) = true := decide_eq_true c3; clear c3
   obtain ⟨y101, hy101⟩ : ∃ y_ : List ByteArray, y_ = (List.replicate ((l0.length : Int) : Int).toNat (⟨#[]⟩ : BA_)) := ⟨_, rfl⟩
   replace H : (laws_toStringS.l0 k l0 y101 0) = some r := qh_ hy101 H; have Ny101 := Aside0.mk hy101; clear hy101; have H' := Aside0.mk H; clear H; go_enter Tryd.func6, Tryd.ntmps6
   go_wp2_with (first | ((with_reducible refine gate_dst (N := 7) rfl ?_); refine Kd.R_make Kd.string _ 9 rfl (N := 7) rfl 22 _ _ rfl (l0.length : Int) rfl rfl Tryd.underlying22 (.string ⟨#[]⟩) 16 info9 rfl (by decide) (by omega) (⟨#[]⟩ : BA_) (ok := fun _ => True) (okp := fun _ => True) rfl (fun _ hk => hk) trivial (qd_) (Nat.le_trans (Nat.mul_le_mul_right _ (qd_ : (l0.length : Int).toNat ≤ 17592186044416)) (by omega)) (Below.refl _ _) (Nat.le_refl _) ?_; intro v102 w4 ho5 hb hg_ hnew_; clear hg_ hnew_; (first | rw [← Ny101.out] at ho5 | (simp only [Int.reduceToNat] at ho5; rw [← Ny101.out] at ho5)); have HO103 := Aside0.mk (Kd.R_lower ho5 (below_size qBHB)); replace HB := Aside0.mk (below_step qBHB hb); clear hb ho5))
   go_loopg [4] k (fun kq v4 w' => ∃ (x3_1 : List ByteArray) (x4_1 : Int), v4 = .int .i64 x4_1 ∧ Aside0 (laws_toStringS.l0 kq l0 x3_1 x4_1 = some r) ∧ Aside0 (kq ≤ k) ∧ Aside0 (Kd.R Kd.string 9 w' w.heap.size (fun _ => True) v102 x3_1) ∧ Aside0 (Below w.heap.size w w'))
   case atStart => exact ⟨(y101), (0), qff_, H', ⟨Nat.le_refl _⟩, ⟨qr_ HO103⟩, ⟨qBHB⟩⟩
   case round =>
    clear H'
    try clear c2
    try clear c2b0
    try clear c2b1
    try clear p2
    try clear c3
    try clear c3b0
    try clear c3b1
    obtain ⟨x3_1, x4_1, rfl, HA, HK1, HO_3, HB⟩ := hrel
    cases gk with
    | zero => exact absurd HA.out (by simp [laws_toStringS.l0])
    | succ k1 =>
     have H := HA.out; clear HA; simp only [laws_toStringS.l0] at H; by_cases c6 : x4_1 < (l0.length : Int)
     ·rw [if_pos c6] at H
      have c6b0 : decide (x4_1 < (l0.length : Int)) = true := decide_eq_true c6; clear c6; by_cases c7 : 0 ≤ x4_1
      ·rw [if_pos c7] at H
       have c7b0 : decide (0 ≤ x4_1) = true := decide_eq_true c7; clear c7; by_cases c8 : x4_1 < (x3_1.length : Int)
       ·rw [if_pos c8] at H
        have c8b0 : decide (x4_1 < (x3_1.length : Int)) = true := decide_eq_true c8; clear c8
        obtain ⟨y105, hy105⟩ : ∃ y_ : List ByteArray, y_ = (x3_1.set (x4_1 : Int).toNat (rdOf ByteArray.empty l0 x4_1)) := ⟨_, rfl⟩
        replace H : (laws_toStringS.l0 k1 l0 y105 (wrap64 (x4_1 + 1))) = some r := qh_ hy105 H; have Ny105 := Aside0.mk hy105; clear hy105; have H' := Aside0.mk H; clear H; have p104 : 0 ≤ (x4_1 : Int) := qd_; have q104 : x4_1 < (l0.length : Int) := qd_; obtain ⟨ad104, e104, hx104_0⟩ := Kd.at_string HR0.out x4_1 p104 q104; cases e104; replace hx104_0 := (HB.out.cell (World.block_lt_of_cell? w _ hx104_0)).trans hx104_0; replace p104 := eq_true p104; replace q104 := eq_true q104; have p9 : 0 ≤ (x4_1 : Int) := qd_; have q9 : (x4_1 : Int) < ((x3_1.length : Int) : Int) := qd_; obtain ⟨go9, co9, eo9, gb9, gl9, cl9, HG9⟩ := Kd.R_form HO_3.out (by omega)
        (first | cases eo9 | (injection eo9 with ea_ en_ ec_; (first | subst ea_ | (injection ea_ with ea_; subst ea_)); subst ec_; clear en_))
        have GB9 := Aside0.mk gb9; have GG9 := Aside0.mk HG9; clear gb9 gl9 HG9; obtain ⟨hx9_0, hf9_0⟩ := Kd.R_celln (⟨#[]⟩ : BA_) HO_3.out (x4_1 : Int) p9 q9; replace p9 := eq_true p9; replace q9 := eq_true q9; have HP10 := Kd.R_putg HO_3.out (x4_1 : Int) (rdOf ByteArray.empty l0 x4_1)
        go_wp2_with (first | ((with_reducible refine gate_store (t := 9) (p := 20) rfl ?_); refine store_event (t := 9) (p := 20) (v := ?vo_w11) (w1 := (wr.setCell ⟨go9, (x4_1 : Int).toNat, none⟩ (.string (rdOf ByteArray.empty l0 x4_1)))) ?Hg ?Ho ?Hn ?Hr ?_; (case Ho => rfl); (case Hg => rfl); (case Hn => rfl); (case Hr => first | (go_simp; done) | (go_simp; rfl)); intro w11 hw; have hg : wr.grownBy w11 (some go9) := (by rw [hw]; exact HP10.2); have hp_ : Kd.R Kd.string 9 w11 w.heap.size (fun _ => True) (.slice (some ⟨go9, 0, none⟩) x3_1.length co9) y105 := (by rw [hw, Ny105.out]; exact HP10.1); clear HP10; replace HO_3 := Aside0.mk (hp_); replace HB := Aside0.mk ((by rw [hw]; exact below_set (HB.out) GB9.out : Below w.heap.size w w11)); clear hg hw hp_))
        go_roundg k1
        case measure => have := HK1.out; omega
        case rel => exact ⟨(y105), (wrap64 (x4_1 + 1)), qff_, H', ⟨by have := HK1.out; omega⟩, ⟨qr_ HO_3⟩, ⟨qBHB⟩⟩
       ·rw [if_neg c8] at H
        exact absurd H (by simp)
      ·rw [if_neg c7] at H
       exact absurd H (by simp)
     ·rw [if_neg c6] at H
      have c6b0 : decide (x4_1 < (l0.length : Int)) = false := decide_eq_false c6; clear c6; obtain rfl := Option.some.inj H
      go_wp2
      go_ret; exact ⟨_, qee_, qr_ HO_3, qBHB⟩
  ·rw [if_neg c3] at H
   exact absurd H (by simp)
 ·rw [if_neg c2] at H
  exact absurd H (by simp)


/-! ### impl_upper: function 22 (a text of mine) -/
def impl_upper.f (a0 : ByteArray) : Option ByteArray := if a0.size ≤ 9223372036854775807 then some ⟨(a0.data.toList.map upB).toArray⟩ else none
set_option maxHeartbeats 8000000 in
set_option maxRecDepth 100000 in
theorem impl_upper.calls (a0 : ByteArray) (r : ByteArray) (w : World) (h : impl_upper.f a0 = some r) :
  Calls Tryd.prog 22 #[.string a0] w fun e w' => e = .returned (.string r) ∧ Below w.heap.size w w' := by
 unfold impl_upper.f at h
 split at h
 ·rename_i hn
  obtain rfl := Option.some.inj h; have HN := Aside0.mk hn
  obtain ⟨l, hl⟩ : ∃ l, l = a0.data.toList := ⟨_, rfl⟩
  have HS : Aside0 (l.length = a0.size) := ⟨by rw [hl]; simp⟩; rw [← hl]; have HE := Aside0.mk hl; clear h hn hl; go_enter Tryd.func22, Tryd.ntmps22
  go_wp2_with ((with_reducible refine gate_dst (N := 7) rfl ?_); refine Kd.B_conv rfl (N' := 7) rfl 9 47 5 _ rfl a0 rfl Tryd.underlying9 Tryd.underlying47 Tryd.underlying5 ?_; intro c0 w1 hR hb; rw [← HE.out] at hR; have HR := Aside0.mk hR; have HB := Aside0.mk hb; clear hR hb)
  go_loopg [4, 5, 10] l.length (fun gg _ _ s10 wr => ∃ x : Nat, s10 = .int .i64 (x : Int) ∧ Aside0 (x ≤ l.length ∧ l.length - x ≤ gg) ∧ Aside0 (RowB wr w.heap.size (midB upB l x)) ∧ Aside0 (Below w.heap.size w wr))
  case atStart => exact ⟨0, rfl, ⟨by omega, by omega⟩, ⟨by rw [midB_zero]; exact HR.out⟩, HB⟩
  case round =>
   obtain ⟨x, rfl, HK, HR2, HB2⟩ := hrel; by_cases hlt : x < l.length
   ·have hs := HS.out
    have hp : decide ((x : Int) < (a0.size : Int)) = true := decide_eq_true (by omega); have q0 : ((0 : Int) ≤ (x : Int)) = True := eq_true (by omega); have hq : (x < a0.size) = True := eq_true (by omega); have q1 : ((x : Int) < (a0.size : Int)) = True := eq_true (by omega); have HW : Aside0 (wrap64 ((x : Int) + 1) = ((x + 1 : Nat) : Int)) := ⟨by have := HN.out; unfold wrap64; omega⟩
    obtain ⟨b, hb⟩ : ∃ b, l[x]? = some b := ⟨_, List.getElem?_eq_getElem hlt⟩
    obtain ⟨hc, hf⟩ := HR2.out.midCell hb; have HX := Aside0.mk hb; have H1 := Aside0.mk hlt; clear hb hlt hs; by_cases h1 : 97 ≤ b.toNat ∧ b.toNat ≤ 122
    ·have d1 : decide ((b.toNat : Int) ≥ 97) = true := decide_eq_true (by omega)
     have d2 : decide ((b.toNat : Int) ≤ 122) = true := decide_eq_true (by omega); have HL := Aside0.mk (upB_hit b h1); have HM : Aside0 (IntKind.u8.wrap ((b.toNat : Int) - 32) = (b.toNat : Int) - 32) := ⟨by rw [IntKind.wrap_u8]; omega⟩
     clear h1
     go_wp2
     go_roundg (l.length - (x + 1))
     case measure => have := H1.out; have := HK.out; omega
     case rel =>
      exact ⟨x + 1, (by first | rfl | (rw [HW.out]; done) | (simp [HW.out]; done)), ⟨by have := H1.out; omega, by omega⟩, ⟨HR2.out.midNext HX.out _ (by first | (rw [HM.out, HL.out]; done) | (rw [HL.out]; exact HM.out))⟩, ⟨below_set HB2.out (Nat.le_refl _)⟩⟩
    ·by_cases h2 : 97 ≤ b.toNat
     ·have d1 : decide ((b.toNat : Int) ≥ 97) = true := decide_eq_true (by omega)
      have d2 : decide ((b.toNat : Int) ≤ 122) = false := decide_eq_false (by omega); have HL := Aside0.mk (upB_miss b h1); clear h1 h2
      go_wp2
      go_roundg (l.length - (x + 1))
      case measure => have := H1.out; have := HK.out; omega
      case rel => exact ⟨x + 1, (by first | rfl | (rw [HW.out]; done) | (simp [HW.out]; done)), ⟨by have := H1.out; omega, by omega⟩, ⟨HR2.out.midStay HX.out HL.out⟩, HB2⟩
     ·have d1 : decide ((b.toNat : Int) ≥ 97) = false := decide_eq_false (by omega)
      have HL := Aside0.mk (upB_miss b h1); clear h1 h2
      go_wp2
      go_roundg (l.length - (x + 1))
      case measure => have := H1.out; have := HK.out; omega
      case rel => exact ⟨x + 1, (by first | rfl | (rw [HW.out]; done) | (simp [HW.out]; done)), ⟨by have := H1.out; omega, by omega⟩, ⟨HR2.out.midStay HX.out HL.out⟩, HB2⟩
   ·have hp : decide ((x : Int) < (a0.size : Int)) = false := decide_eq_false (by have := HS.out; omega)
    have hq : (x < a0.size) = False := eq_false (by have := HS.out; omega); have hR3 : Aside0 (RowB wr w.heap.size (l.map upB)) := ⟨by have := HR2.out; rwa [show x = l.length by have := HK.out; omega, midB_all] at this⟩
    clear hlt
    go_wp2_with ((with_reducible refine gate_dst (N := 28) rfl ?_); refine Kd.B_back rfl (N' := 28) rfl 47 9 5 _ rfl w.heap.size a0.size c0 (l.map upB) rfl (by rw [List.length_map]; exact HS.out.symm) hR3.out Tryd.underlying47 Tryd.underlying9 Tryd.underlying5 ?_)
    go_ret; exact ⟨rfl, HB2.out⟩
 ·cases h


/-! ### impl_flagKey: function 28 -/
def impl_flagKey.f (a0 : ByteArray) : Option (Int × Bool) := if a0.toList = ([83, 69, 69, 78] : List UInt8) then (some (1, true)) else (if a0.toList = ([85, 78, 83, 69, 69, 78] : List UInt8) then (some (1, false)) else (if a0.toList = ([65, 78, 83, 87, 69, 82, 69, 68] : List UInt8) then (some (2, true)) else (if a0.toList = ([70, 76, 65, 71, 71, 69, 68] : List UInt8) then (some (4, true)) else (if a0.toList = ([68, 69, 76, 69, 84, 69, 68] : List UInt8) then (some (8, true)) else (if a0.toList = ([85, 78, 68, 69, 76, 69, 84, 69, 68] : List UInt8) then (some (8, false)) else (if a0.toList = ([68, 82, 65, 70, 84] : List UInt8) then (some (16, true)) else (some (0, false))))))))
set_option maxHeartbeats 8000000 in
set_option maxRecDepth 100000 in
theorem impl_flagKey.calls (a0 : ByteArray) (r1 : Int) (r2 : Bool) (w : World) (h : impl_flagKey.f a0 = some (r1, r2)) :
  Calls Tryd.prog 28 #[.string a0] w fun e w' => e = .returned (.tuple #[.int .i64 r1, .bool r2]) ∧ Drawn0 w w' := by
 have H : (if a0.toList = ([83, 69, 69, 78] : List UInt8) then (some (1, true)) else (if a0.toList = ([85, 78, 83, 69, 69, 78] : List UInt8) then (some (1, false)) else (if a0.toList = ([65, 78, 83, 87, 69, 82, 69, 68] : List UInt8) then (some (2, true)) else (if a0.toList = ([70, 76, 65, 71, 71, 69, 68] : List UInt8) then (some (4, true)) else (if a0.toList = ([68, 69, 76, 69, 84, 69, 68] : List UInt8) then (some (8, true)) else (if a0.toList = ([85, 78, 68, 69, 76, 69, 84, 69, 68] : List UInt8) then (some (8, false)) else (if a0.toList = ([68, 82, 65, 70, 84] : List UInt8) then (some (16, true)) else (some (0, false))))))))) = some (r1, r2) := h
 clear h
 by_cases c2 : a0.toList = ([83, 69, 69, 78] : List UInt8)
 ·rw [if_pos c2] at H
  have c2b0 : (a0.toList == ([83, 69, 69, 78] : List UInt8)) = true := beq_iff_eq.mpr c2; have c2b1 : (a0.toList != ([83, 69, 69, 78] : List UInt8)) = false := bne_eq_false_iff_eq.mpr c2; clear c2; simp only [Option.some.injEq, Prod.mk.injEq] at H; obtain ⟨rfl, rfl⟩ := H; go_enter Tryd.func28, Tryd.ntmps28
  go_wp2
  go_ret2
  exact ⟨by first | rfl | (simp; done) | (simp [*]; done), by repeat (first | exact Drawn0.refl _ | apply Drawn0.step)⟩
 ·rw [if_neg c2] at H
  have c2b0 : (a0.toList == ([83, 69, 69, 78] : List UInt8)) = false := beq_eq_false_iff_ne.mpr c2; have c2b1 : (a0.toList != ([83, 69, 69, 78] : List UInt8)) = true := bne_iff_ne.mpr c2; by_cases c3 : a0.toList = ([85, 78, 83, 69, 69, 78] : List UInt8)
  ·rw [if_pos c3] at H
   have c3b0 : (a0.toList == ([85, 78, 83, 69, 69, 78] : List UInt8)) = true := beq_iff_eq.mpr c3; have c3b1 : (a0.toList != ([85, 78, 83, 69, 69, 78] : List UInt8)) = false := bne_eq_false_iff_eq.mpr c3; clear c3; simp only [Option.some.injEq, Prod.mk.injEq] at H; obtain ⟨rfl, rfl⟩ := H; go_enter Tryd.func28, Tryd.ntmps28
   go_wp2
   go_ret2
   exact ⟨by first | rfl | (simp; done) | (simp [*]; done), by repeat (first | exact Drawn0.refl _ | apply Drawn0.step)⟩
  ·rw [if_neg c3] at H
   have c3b0 : (a0.toList == ([85, 78, 83, 69, 69, 78] : List UInt8)) = false := beq_eq_false_iff_ne.mpr c3; have c3b1 : (a0.toList != ([85, 78, 83, 69, 69, 78] : List UInt8)) = true := bne_iff_ne.mpr c3; by_cases c4 : a0.toList = ([65, 78, 83, 87, 69, 82, 69, 68] : List UInt8)
   ·rw [if_pos c4] at H
    have c4b0 : (a0.toList == ([65, 78, 83, 87, 69, 82, 69, 68] : List UInt8)) = true := beq_iff_eq.mpr c4; have c4b1 : (a0.toList != ([65, 78, 83, 87, 69, 82, 69, 68] : List UInt8)) = false := bne_eq_false_iff_eq.mpr c4; clear c4; simp only [Option.some.injEq, Prod.mk.injEq] at H; obtain ⟨rfl, rfl⟩ := H; go_enter Tryd.func28, Tryd.ntmps28
    go_wp2
    go_ret2
    exact ⟨by first | rfl | (simp; done) | (simp [*]; done), by repeat (first | exact Drawn0.refl _ | apply Drawn0.step)⟩
   ·rw [if_neg c4] at H
    have c4b0 : (a0.toList == ([65, 78, 83, 87, 69, 82, 69, 68] : List UInt8)) = false := beq_eq_false_iff_ne.mpr c4; have c4b1 : (a0.toList != ([65, 78, 83, 87, 69, 82, 69, 68] : List UInt8)) = true := bne_iff_ne.mpr c4; by_cases c5 : a0.toList = ([70, 76, 65, 71, 71, 69, 68] : List UInt8)
    ·rw [if_pos c5] at H
     have c5b0 : (a0.toList == ([70, 76, 65, 71, 71, 69, 68] : List UInt8)) = true := beq_iff_eq.mpr c5; have c5b1 : (a0.toList != ([70, 76, 65, 71, 71, 69, 68] : List UInt8)) = false := bne_eq_false_iff_eq.mpr c5; clear c5; simp only [Option.some.injEq, Prod.mk.injEq] at H; obtain ⟨rfl, rfl⟩ := H; go_enter Tryd.func28, Tryd.ntmps28
     go_wp2
     go_ret2
     exact ⟨by first | rfl | (simp; done) | (simp [*]; done), by repeat (first | exact Drawn0.refl _ | apply Drawn0.step)⟩
    ·rw [if_neg c5] at H
     have c5b0 : (a0.toList == ([70, 76, 65, 71, 71, 69, 68] : List UInt8)) = false := beq_eq_false_iff_ne.mpr c5; have c5b1 : (a0.toList != ([70, 76, 65, 71, 71, 69, 68] : List UInt8)) = true := bne_iff_ne.mpr c5; by_cases c6 : a0.toList = ([68, 69, 76, 69, 84, 69, 68] : List UInt8)
     ·rw [if_pos c6] at H
      have c6b0 : (a0.toList == ([68, 69, 76, 69, 84, 69, 68] : List UInt8)) = true := beq_iff_eq.mpr c6; have c6b1 : (a0.toList != ([68, 69, 76, 69, 84, 69, 68] : List UInt8)) = false := bne_eq_false_iff_eq.mpr c6; clear c6; simp only [Option.some.injEq, Prod.mk.injEq] at H; obtain ⟨rfl, rfl⟩ := H; go_enter Tryd.func28, Tryd.ntmps28
      go_wp2
      go_ret2
      exact ⟨by first | rfl | (simp; done) | (simp [*]; done), by repeat (first | exact Drawn0.refl _ | apply Drawn0.step)⟩
     ·rw [if_neg c6] at H
      have c6b0 : (a0.toList == ([68, 69, 76, 69, 84, 69, 68] : List UInt8)) = false := beq_eq_false_iff_ne.mpr c6; have c6b1 : (a0.toList != ([68, 69, 76, 69, 84, 69, 68] : List UInt8)) = true := bne_iff_ne.mpr c6; by_cases c7 : a0.toList = ([85, 78, 68, 69, 76, 69, 84, 69, 68] : List UInt8)
      ·rw [if_pos c7] at H
       have c7b0 : (a0.toList == ([85, 78, 68, 69, 76, 69, 84, 69, 68] : List UInt8)) = true := beq_iff_eq.mpr c7; have c7b1 : (a0.toList != ([85, 78, 68, 69, 76, 69, 84, 69, 68] : List UInt8)) = false := bne_eq_false_iff_eq.mpr c7; clear c7; simp only [Option.some.injEq, Prod.mk.injEq] at H; obtain ⟨rfl, rfl⟩ := H; go_enter Tryd.func28, Tryd.ntmps28
       go_wp2
       go_ret2
       exact ⟨by first | rfl | (simp; done) | (simp [*]; done), by repeat (first | exact Drawn0.refl _ | apply Drawn0.step)⟩
      ·rw [if_neg c7] at H
       have c7b0 : (a0.toList == ([85, 78, 68, 69, 76, 69, 84, 69, 68] : List UInt8)) = false := beq_eq_false_iff_ne.mpr c7; have c7b1 : (a0.toList != ([85, 78, 68, 69, 76, 69, 84, 69, 68] : List UInt8)) = true := bne_iff_ne.mpr c7; by_cases c8 : a0.toList = ([68, 82, 65, 70, 84] : List UInt8)
       ·rw [if_pos c8] at H
        have c8b0 : (a0.toList == ([68, 82, 65, 70, 84] : List UInt8)) = true := beq_iff_eq.mpr c8; have c8b1 : (a0.toList != ([68, 82, 65, 70, 84] : List UInt8)) = false := bne_eq_false_iff_eq.mpr c8; clear c8; simp only [Option.some.injEq, Prod.mk.injEq] at H; obtain ⟨rfl, rfl⟩ := H; go_enter Tryd.func28, Tryd.ntmps28
        go_wp2
        go_ret2
        exact ⟨by first | rfl | (simp; done) | (simp [*]; done), by repeat (first | exact Drawn0.refl _ | apply Drawn0.step)⟩
       ·rw [if_neg c8] at H
        have c8b0 : (a0.toList == ([68, 82, 65, 70, 84] : List UInt8)) = false := beq_eq_false_iff_ne.mpr c8; have c8b1 : (a0.toList != ([68, 82, 65, 70, 84] : List UInt8)) = true := bne_iff_ne.mpr c8; simp only [Option.some.injEq, Prod.mk.injEq] at H; obtain ⟨rfl, rfl⟩ := H; go_enter Tryd.func28, Tryd.ntmps28
        go_wp2
        go_ret2
        exact ⟨by first | rfl | (simp; done) | (simp [*]; done), by repeat (first | exact Drawn0.refl _ | apply Drawn0.step)⟩


/-! ### impl_wordKey: function 29 -/
def impl_wordKey.f (a0 : ByteArray) : Option (Bool) := if a0.toList = ([83, 85, 66, 74, 69, 67, 84] : List UInt8) then (some true) else (if a0.toList = ([70, 82, 79, 77] : List UInt8) then (some true) else (some (a0.toList == ([84, 69, 88, 84] : List UInt8))))
set_option maxHeartbeats 8000000 in
set_option maxRecDepth 100000 in
theorem impl_wordKey.calls (a0 : ByteArray) (r : Bool) (w : World) (h : impl_wordKey.f a0 = some r) :
  Calls Tryd.prog 29 #[.string a0] w fun e w' => e = .returned (.bool r) ∧ Drawn0 w w' := by
 have H : (if a0.toList = ([83, 85, 66, 74, 69, 67, 84] : List UInt8) then (some true) else (if a0.toList = ([70, 82, 79, 77] : List UInt8) then (some true) else (some (a0.toList == ([84, 69, 88, 84] : List UInt8))))) = some r := h
 clear h
 by_cases c2 : a0.toList = ([83, 85, 66, 74, 69, 67, 84] : List UInt8)
 ·rw [if_pos c2] at H
  have c2b0 : (a0.toList == ([83, 85, 66, 74, 69, 67, 84] : List UInt8)) = true := beq_iff_eq.mpr c2; have c2b1 : (a0.toList != ([83, 85, 66, 74, 69, 67, 84] : List UInt8)) = false := bne_eq_false_iff_eq.mpr c2; clear c2; obtain rfl := Option.some.inj H; go_enter Tryd.func29, Tryd.ntmps29
  go_wp2
  go_ret; exact ⟨by first | rfl | (simp; done) | (simp [*]; done), by repeat (first | exact Drawn0.refl _ | apply Drawn0.step)⟩
 ·rw [if_neg c2] at H
  have c2b0 : (a0.toList == ([83, 85, 66, 74, 69, 67, 84] : List UInt8)) = false := beq_eq_false_iff_ne.mpr c2; have c2b1 : (a0.toList != ([83, 85, 66, 74, 69, 67, 84] : List UInt8)) = true := bne_iff_ne.mpr c2; by_cases c3 : a0.toList = ([70, 82, 79, 77] : List UInt8)
  ·rw [if_pos c3] at H
   have c3b0 : (a0.toList == ([70, 82, 79, 77] : List UInt8)) = true := beq_iff_eq.mpr c3; have c3b1 : (a0.toList != ([70, 82, 79, 77] : List UInt8)) = false := bne_eq_false_iff_eq.mpr c3; clear c3; obtain rfl := Option.some.inj H; go_enter Tryd.func29, Tryd.ntmps29
   go_wp2
   go_ret; exact ⟨by first | rfl | (simp; done) | (simp [*]; done), by repeat (first | exact Drawn0.refl _ | apply Drawn0.step)⟩
  ·rw [if_neg c3] at H
   have c3b0 : (a0.toList == ([70, 82, 79, 77] : List UInt8)) = false := beq_eq_false_iff_ne.mpr c3; have c3b1 : (a0.toList != ([70, 82, 79, 77] : List UInt8)) = true := bne_iff_ne.mpr c3; obtain rfl := Option.some.inj H; go_enter Tryd.func29, Tryd.ntmps29
   go_wp2
   go_ret; exact ⟨by first | rfl | (simp; done) | (simp [*]; done), by repeat (first | exact Drawn0.refl _ | apply Drawn0.step)⟩


/-! ### strings_explode: function 41 (a text of mine) -/
/-- Not come to: told at no input. -/
def strings_explode.f (a0 : ByteArray) (a1 : Int) : Option (List ByteArray) := none
theorem strings_explode.calls (a0 : ByteArray) (a1 : Int) (r : List ByteArray) (w : World) (h : strings_explode.f a0 a1 = some r) :
  Calls Tryd.prog 41 #[.string a0, .int .i64 a1] w fun e w' => ∃ v0_ : Value, e = .returned (v0_) ∧ Kd.R Kd.string 9 w' w.heap.size (fun _ => True) v0_ r ∧ Below w.heap.size w w' := by
 cases h


/-! ### strings_Count: function 42 (a text of mine) -/
section
open Go.Shelf
def sh42_lays138_ren : Go.Shelf.Ren := ⟨fun | 138 => 42 | 195 => 48 | 218 => 50 | 143 => 43 | 219 => 44 | 217 => 51 | 225 => 52 | 224 => 53 | 267 => 54 | 266 => 59 | 314 => 60 | n => n, fun | 9 => 9 | 3 => 3 | 4 => 4 | 5 => 5 | 0 => 0 | 46 => 73 | 146 => 76 | 51 => 75 | n => n, fun | 1 => 0 | n => n⟩
theorem sh42_lays138 : Go.Proofs.Lays.n138 Tryd.prog sh42_lays138_ren := {
 mixed := by kernel_rfl
 f138 := Tryd.func42.trans (congrArg some qK)
 f143 := Tryd.func43.trans (congrArg some qK)
 f195 := Tryd.func48.trans (congrArg some qK)
 f217 := Tryd.func51.trans (congrArg some qK)
 f218 := Tryd.func50.trans (congrArg some qK)
 f219 := Tryd.func44.trans (congrArg some qK)
 f224 := Tryd.func53.trans (congrArg some qK)
 f225 := Tryd.func52.trans (congrArg some qK)
 f266 := Tryd.func59.trans (congrArg some qK)
 f267 := Tryd.func54.trans (congrArg some qK)
 f314 := Tryd.func60.trans (congrArg some qK)
 t0 := Tryd.underlying0
 a0 := Tryd.isAgg0
 z0 := Tryd.sizeOf0
 v0 := Tryd.zeroValue0
 t3 := Tryd.underlying3
 a3 := Tryd.isAgg3
 z3 := Tryd.sizeOf3
 v3 := Tryd.zeroValue3
 t4 := Tryd.underlying4
 a4 := Tryd.isAgg4
 z4 := Tryd.sizeOf4
 v4 := Tryd.zeroValue4
 t5 := Tryd.underlying5
 a5 := Tryd.isAgg5
 z5 := Tryd.sizeOf5
 v5 := Tryd.zeroValue5
 t9 := Tryd.underlying9
 a9 := Tryd.isAgg9
 z9 := Tryd.sizeOf9
 v9 := Tryd.zeroValue9
 t46 := Tryd.underlying73
 a46 := Tryd.isAgg73
 z46 := Tryd.sizeOf73
 v46 := Tryd.zeroValue73
 t51 := Tryd.underlying75
 a51 := Tryd.isAgg75
 z51 := Tryd.sizeOf75
 v51 := Tryd.zeroValue75
 t146 := Tryd.underlying76
 a146 := Tryd.isAgg76
 z146 := Tryd.sizeOf76
 v146 := Tryd.zeroValue76
 g1 := by kernel_rfl }
open Go.RowKit Go.Lib in
theorem sh42_strings_Count_one (s : ByteArray) (c : UInt8) (w : World) :
  Calls Tryd.prog 42 #[.string s, .string ⟨#[c]⟩] w fun e w' => e = .returned (.int .i64 (Lib.countByte s.data.toList c)) ∧ w' = w := Any.strings_Count_one sh42_lays138 s c w
open Go.RowKit Go.Lib in
end
def strings_Count.f (a0 : ByteArray) (a1 : ByteArray) : Option Int := if a1.data.toList.length = 1 then some (Lib.countByte a0.data.toList (a1.data.toList.getD 0 0) : Nat) else none
theorem strings_Count.calls (a0 : ByteArray) (a1 : ByteArray) (r : Int) (w : World) (h : strings_Count.f a0 a1 = some r) :
  Calls Tryd.prog 42 #[.string a0, .string a1] w fun e w' => e = .returned (.int .i64 r) ∧ Drawn0 w w' := by
 unfold strings_Count.f at h
 split at h
 ·rename_i hh
  obtain rfl := Option.some.inj h; obtain ⟨⟨l⟩⟩ := a1
  match l, hh with
  | [c], _ => exact (sh42_strings_Count_one a0 c w).mono fun e w' ⟨he, hw⟩ => ⟨he, hw ▸ Drawn0.refl _⟩
 ·cases h


/-! ### strings_Index: function 43 (a text of mine) -/
section
open Go.Shelf
def sh43_lays143_ren : Go.Shelf.Ren := ⟨fun | 143 => 43 | 219 => 44 | 217 => 51 | 225 => 52 | 224 => 53 | 267 => 54 | 266 => 59 | 314 => 60 | n => n, fun | 9 => 9 | 3 => 3 | 4 => 4 | 5 => 5 | 46 => 73 | 146 => 76 | 51 => 75 | n => n, fun | 1 => 0 | n => n⟩
theorem sh43_lays143 : Go.Proofs.Lays.n143 Tryd.prog sh43_lays143_ren := {
 mixed := by kernel_rfl
 f143 := Tryd.func43.trans (congrArg some qK)
 f217 := Tryd.func51.trans (congrArg some qK)
 f219 := Tryd.func44.trans (congrArg some qK)
 f224 := Tryd.func53.trans (congrArg some qK)
 f225 := Tryd.func52.trans (congrArg some qK)
 f266 := Tryd.func59.trans (congrArg some qK)
 f267 := Tryd.func54.trans (congrArg some qK)
 f314 := Tryd.func60.trans (congrArg some qK)
 t3 := Tryd.underlying3
 a3 := Tryd.isAgg3
 z3 := Tryd.sizeOf3
 v3 := Tryd.zeroValue3
 t4 := Tryd.underlying4
 a4 := Tryd.isAgg4
 z4 := Tryd.sizeOf4
 v4 := Tryd.zeroValue4
 t5 := Tryd.underlying5
 a5 := Tryd.isAgg5
 z5 := Tryd.sizeOf5
 v5 := Tryd.zeroValue5
 t9 := Tryd.underlying9
 a9 := Tryd.isAgg9
 z9 := Tryd.sizeOf9
 v9 := Tryd.zeroValue9
 t46 := Tryd.underlying73
 a46 := Tryd.isAgg73
 z46 := Tryd.sizeOf73
 v46 := Tryd.zeroValue73
 t51 := Tryd.underlying75
 a51 := Tryd.isAgg75
 z51 := Tryd.sizeOf75
 v51 := Tryd.zeroValue75
 t146 := Tryd.underlying76
 a146 := Tryd.isAgg76
 z146 := Tryd.sizeOf76
 v146 := Tryd.zeroValue76
 g1 := by kernel_rfl }
open Go.RowKit Go.Lib in
theorem sh43_strings_Index_one (s : ByteArray) (c : UInt8) (w : World) :
  Calls Tryd.prog 43 #[.string s, .string ⟨#[c]⟩] w fun e w' => e = .returned (.int .i64 (Lib.indexByte s.data.toList c)) ∧ w' = w := Any.strings_Index_one sh43_lays143 s c w
open Go.RowKit Go.Lib in
end
def strings_Index.f (a0 : ByteArray) (a1 : ByteArray) : Option Int := if a1.data.toList.length = 1 then some (Lib.indexByte a0.data.toList (a1.data.toList.getD 0 0)) else none
theorem strings_Index.calls (a0 : ByteArray) (a1 : ByteArray) (r : Int) (w : World) (h : strings_Index.f a0 a1 = some r) :
  Calls Tryd.prog 43 #[.string a0, .string a1] w fun e w' => e = .returned (.int .i64 r) ∧ Drawn0 w w' := by
 unfold strings_Index.f at h
 split at h
 ·rename_i hh
  obtain rfl := Option.some.inj h; obtain ⟨⟨l⟩⟩ := a1
  match l, hh with
  | [c], _ => exact (sh43_strings_Index_one a0 c w).mono fun e w' ⟨he, hw⟩ => ⟨he, hw ▸ Drawn0.refl _⟩
 ·cases h

end Go.Proofs.YtoieoimfkimedaaDoor.P
