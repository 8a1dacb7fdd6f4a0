/- Words of mine: '[]byte(s)' as a new row that is only read (form V). -/
import Derived.Test.YtebgehgkmadppaaWMore
import Derived.Lib.ConvBytes
import Derived.Laws.AppendOwn
namespace Go.Proofs.YtebgehgkmadppaaW.PrintWords
open Go.RowKit
theorem conv_block (w : World) (e : TypeId) (s : ByteArray) : (Lib.bytesWorld w e s).heap.size = w.heap.size + 1 := Lib.bytesWorld_size w e s
theorem conv_below (w : World) (e : TypeId) (s : ByteArray) : Below w.heap.size w (Lib.bytesWorld w e s) :=
  ⟨rfl, rfl, rfl, by rw [conv_block]; omega, fun k hk => Lib.bytesWorld_at_old w e s k hk⟩
theorem conv_C (w W : World) (e : TypeId) (s : ByteArray) (hs : s.size ≤ 9223372036854775807) (hW : W.heap[w.heap.size]? = (Lib.bytesWorld w e s).heap[w.heap.size]?) :
    (Kd.int .u8).C W (some ⟨w.heap.size, 0, none⟩) (bytesOf s).length (bytesOf s) := by
  refine ⟨rfl, by simpa [bytesOf] using hs, fun hn => ⟨⟨w.heap.size, 0, none⟩, rfl, fun j p hj => ⟨[.int .u8 p], rfl, rfl, fun i u hu => ?_⟩⟩⟩
  have hjl : j < s.size := by simpa [bytesOf] using (List.getElem?_eq_some_iff.1 hj).1
  cases i with
  | succ i => simp at hu
  | zero =>
    have hu' : Value.int .u8 p = u := by simpa using hu
    subst hu'
    have hp : p = ((s.data.toList.getD j 0).toNat : Int) := by
      simp only [bytesOf, List.getElem?_map, Option.map_eq_some_iff] at hj
      obtain ⟨b, hb, rfl⟩ := hj
      rw [List.getD_eq_getElem?_getD, hb]
      rfl
    have hc := Lib.bytesWorld_cell w e s j hjl
    have ha : (⟨w.heap.size, 0, none⟩ : Addr).add (j * (Kd.int .u8).sz + 0) = ⟨w.heap.size, j, none⟩ := by
      show (⟨w.heap.size, 0, none⟩ : Addr).add (j * 1 + 0) = _
      unfold Addr.add
      split <;> simp_all
    rw [ha, hp, ← hc]
    exact World.cell?_of_block hW
namespace Kd
section
variable {P : Program} {ops : Array Oper} {rest : List Oper} {o : Oper} {a : Act} {Q : Exit → Act → World → Prop}
/-- '[]byte(s)': a new row that reads as the bytes. -/
theorem V_conv {w0 W : World} (base : Nat) (hgd : o.guard = none) {N' : Tmp} (_hd : o.dst = some N') (src dst e : TypeId) (x : Operand) (ho : o.op = .convert src dst x) (s : ByteArray) (hx : a.eval x = .string s)
    (hsrc : P.underlying src = some .string) (hdst : P.underlying dst = some (.slice e)) (he : P.underlying e = some (.int .u8)) (hl : s.size ≤ 9223372036854775807) (HB : Below base w0 W) (hbase : base ≤ W.heap.size)
    (h : ∀ v1 w1, Kd.V (Kd.int .u8) e w1 base (fun k_ => W.heap.size ≤ k_) v1 (bytesOf s) → Below base w0 w1 → W.grownBy w1 none → (∃ b, v1.ownBlock = some b ∧ W.heap.size ≤ b) → wpList P ops Q rest (a.put o.dst v1) w1) : wpList P ops Q (o :: rest) a W := by
  have hr := Lib.run_convert_string_bytes (P := P) W src dst e s hsrc hdst he
  have hb := conv_below W e s
  refine event_run hgd (v := .slice (some ⟨W.heap.size, 0, none⟩) s.size (grownCap W s.size 0 e)) (w1 := Lib.bytesWorld W e s) (by simp [execOp, ho, hx, hr]) ?_
  have hlen : s.size = (bytesOf s).length := by simp [bytesOf]
  refine h _ _ ⟨some ⟨W.heap.size, 0, none⟩, grownCap W s.size 0 e, by rw [← hlen], by rw [← hlen]; exact grownCap_ge _ _ _ _, ?_⟩ ?_ (grown_of_below hb none) ⟨W.heap.size, by simp [Value.ownBlock], Nat.le_refl _⟩
  · intro W' hW'
    exact conv_C W W' e s hl (hW' _ (Nat.le_refl _) (by rw [conv_block]; omega))
  · exact HB.trans ⟨hb.os, hb.tape, hb.output, hb.size, fun k hk => hb.block k (by omega)⟩
end
end Kd
end Go.Proofs.YtebgehgkmadppaaW.PrintWords
