/- Rows of bytes that a call owns; meridianref4.padded. -/
import Derived.Test.YtjcmpkkflboaoaaGreatDoorFilP
import Derived.Test.YtjcmpkkflboaoaaGreatDoorInts
import Derived.Maps.AppendAt
import Derived.Lib.AppendStr
import Derived.Lib.SmallJoins
import Derived.Deep.Onto
namespace Go.Proofs.YtjcmpkkflboaoaaGreatDoor
open Go.RowKit

/-- The cells of bytes. -/
def encB (l : List UInt8) : List Value := l.map fun b => .int .u8 (b.toNat : Int)
theorem encB_len (l : List UInt8) : (encB l).length = l.length := by unfold encB; rw [List.length_map]
theorem encB_app (a b : List UInt8) : encB a ++ encB b = encB (a ++ b) := by unfold encB; rw [List.map_append]
theorem encB_cells (l : List UInt8) : ∀ u ∈ encB l, u.oneCell' = true := by
  intro u hu
  unfold encB at hu
  obtain ⟨b, _, rfl⟩ := List.mem_map.1 hu
  rfl
theorem encB_str (s : ByteArray) : Lib.strCells s = encB s.data.toList := rfl
theorem info_byte : (Tryz.prog.info? 5).map (fun i => (i.zero, i.size, i.bytes)) = some (some (.int .u8 0), 1, 1) := by kernel_rfl
theorem add_litB (g o j : Nat) : (⟨g, o, none⟩ : Addr).add j = ⟨g, o + j, none⟩ := by unfold Addr.add; split <;> simp_all
/-- New cells laid to be appended. -/
theorem newsB (w : World) (L : List Value) (t : TypeId) : ∀ j u, L[j]? = some u → (w.alloc (.cells L.toArray t)).cell? ((⟨w.heap.size, 0, none⟩ : Addr).add j) = some u := fun j u hu => by
  rw [add_litB, cell_of_row _ w.heap.size _ _ t (0, 0) (heap_alloc_new w _), Nat.zero_add, List.getElem?_toArray]
  exact hu
/-- How long a slice is. -/
def slN : Value → Nat
  | .slice _ n _ => n
  | _ => 0
/-- Bytes that the call owns, gathered since a world. -/
def GB (B : Nat) (w : World) (v : Value) (l : List UInt8) (wr : World) : Prop := wr.ownsRow B 5 1 v l.length (encB l) ∧ Below B w wr ∧ B ≤ w.heap.size
theorem GB.form {B : Nat} {w : World} {v : Value} {l : List UInt8} {wr : World} (h : GB B w v l wr) : ∃ a cap, v = .slice a l.length cap := by
  rcases Go.Joins.ownsRow_forms h.1 with ⟨rfl, h0⟩ | ⟨g, cap, rfl⟩
  · exact ⟨none, 0, by rw [h0]⟩
  · exact ⟨_, cap, rfl⟩
theorem GB.nil {B : Nat} {w : World} (hB : B ≤ w.heap.size) : GB B w (.slice none 0 0) [] w := ⟨World.ownsRow_nil _ _ _ _, Below.refl _ _, hB⟩
theorem GB.step {B : Nat} {w : World} {v v' : Value} {l m : List UInt8} {wr w1 : World} {o : Obj} {k : Nat} (h : GB B w v l wr) (hk : m.length = k) (hown : w1.ownsRow B 5 1 v' (l.length + k) (encB l ++ encB m)) (hg : (wr.alloc o).grownBy w1 v.ownBlock) : GB B w v' (l ++ m) w1 := by
  obtain ⟨h1, h4, hB⟩ := h
  have hs := h4.size
  refine ⟨?_, (h4.alloc (by omega) o).grown hg (by simp only [World.size_alloc]; omega) (fun j hj => (h1.lt j hj).1), hB⟩
  rw [List.length_append, ← encB_app, hk]; exact hown
theorem GB.stepS {B : Nat} {w : World} {v v' : Value} {l m : List UInt8} {wr w1 : World} {k : Nat} (h : GB B w v l wr) (hk : m.length = k) (hown : w1.ownsRow B 5 1 v' (l.length + k) (encB l ++ encB m)) (hg : wr.grownBy w1 v.ownBlock) : GB B w v' (l ++ m) w1 := by
  obtain ⟨h1, h4, hB⟩ := h
  have hs := h4.size
  refine ⟨?_, h4.grown hg (by omega) (fun j hj => (h1.lt j hj).1), hB⟩
  rw [List.length_append, ← encB_app, hk]; exact hown
theorem ownB_below {w w' : World} {base e size k : Nat} {v : Value} {xs : List Value} (h : w.ownsRow base e size v k xs) (hb : Below w.heap.size w w') : w'.ownsRow base e size v k xs := by
  refine ⟨h.1, ?_⟩
  rcases h.2 with h0 | ⟨g, cap, cur, e1, e2, e3, e4⟩
  · exact Or.inl h0
  · exact Or.inr ⟨g, cap, cur, e1, e2, (hb.block g (Array.getElem?_eq_some_iff.1 e3).1).trans e3, e4⟩
theorem GB.below {B : Nat} {w wr w' : World} {v : Value} {l : List UInt8} (h : GB B w v l wr) (hb : Below wr.heap.size wr w') : GB B w v l w' := ⟨ownB_below h.1 hb, h.2.1.trans (hb.mono (by have := h.2.1.size; have := h.2.2; omega)), h.2.2⟩
theorem GB.trans {B : Nat} {w wr w' : World} {v v' : Value} {l m : List UInt8} (h : GB B w v l wr) (k : GB B wr v' m w') : GB B w v' m w' := ⟨k.1, h.2.1.trans k.2.1, h.2.2⟩
theorem GB.start {B : Nat} {w wr : World} {v : Value} {l : List UInt8} (h : GB B w v l wr) : GB B wr v l wr := ⟨h.1, Below.refl _ _, by have := h.2.1.size; have := h.2.2; omega⟩
set_option maxHeartbeats 1000000 in
/-- padded, at a row that the caller owns. -/
theorem padded_any (B n : Nat) (c : UInt8) (l : List UInt8) (v : Value) (w : World) (h : GB B w v l w) (hn : n ≤ 1000000) (hl : l.length ≤ 1000000) :
    Calls Tryz.prog 30 #[v, .int .i64 n, .int .u8 (c.toNat : Int)] w fun e w' => ∃ v', e = .returned v' ∧ GB B w v' (padR l n c) w' := by
  obtain ⟨i0, hi, hz0, hz1, hz2⟩ := info_parts info_byte
  obtain ⟨a, cap, rfl⟩ := h.form
  have HG := Lib.hid h
  have hc : c.toNat < 256 := c.toNat_lt
  clear h
  go_enter Tryz.func30, Tryz.ntmps30
  go_wp2
  go_loopw [0] (fun z wr => ∃ (m : List UInt8) (a : Option Addr) (cap : Nat), m.length ≤ 1000000 ∧ z = .slice a m.length cap ∧ padR m n c = padR l n c ∧ Hid (GB B w (.slice a m.length cap) m wr)) (fun z _ => n - slN z)
  case atStart => exact ⟨l, a, cap, hl, rfl, rfl, HG⟩
  case round =>
    clear HG
    obtain ⟨m, a, cap, hm, rfl, hp, hG⟩ := hrel
    by_cases hlt : m.length < n
    · have HP := Lib.hid ((padR_step (c := c) hlt).trans hp)
      have hos := Lib.hid (fun o => World.ownsRow.alloc hG.out.1 o)
      have hsz := hG.out.2.1.size
      have hBw := hG.out.2.2
      have HML : Hid ((m ++ [c]).length = m.length + 1) := Lib.hid (by simp)
      clear hp
      go_wp2_with (first
        | (at_builtin; refine wpList_append_own_at _ rfl _ _ 27 rfl B 5 i0 (.int .u8 0) 1 1 Tryz.underlying27 hi hz0 hz1 hz2 rfl (by decide) (.slice a m.length cap) m.length (encB m) rfl (hos.out _) ⟨wr.heap.size, 0, none⟩ 1 1 (encB [c]) rfl rfl (newsB _ _ _) (encB_cells _) ?c3 ?c4 ?c5 ?_)
        | fail)
      case c3 => unfold maxLen; omega
      case c4 => omega
      case c5 => simp; omega
      intro v' w4 hown hgrow _ _
      have R4 := hG.out.step (m := [c]) rfl hown hgrow
      obtain ⟨a4, cap4, rfl⟩ := R4.form
      have HR := Lib.hid R4
      clear hown hgrow hos R4 hG
      go_wp2
      go_roundw
      case rel => exact ⟨m ++ [c], a4, cap4, by rw [HML.out]; omega, rfl, HP.out, HR⟩
      case measure => simp [slN]; omega
    · have hpe := Lib.hid (padR_more (c := c) (show n ≤ m.length by omega))
      have HP := Lib.hid hp
      clear hp
      go_wp2
      go_ret
      exact ⟨_, rfl, by rw [← HP.out, hpe.out]; exact hG.out⟩
/-- padded with blanks. -/
theorem padded_sp (B n : Nat) (z : Int) (hz : z = n) (l : List UInt8) (v : Value) (w : World) (h : GB B w v l w) (hn : n ≤ 1000000) (hl : l.length ≤ 1000000) :
    Calls Tryz.prog 30 #[v, .int .i64 z, .int .u8 32] w fun e w' => ∃ v', e = .returned v' ∧ GB B w v' (padR l n 32) w' := by
  subst hz
  exact padded_any B n 32 l v w h hn hl
/-- padded with noughts. -/
theorem padded_no (B n : Nat) (z : Int) (hz : z = n) (l : List UInt8) (v : Value) (w : World) (h : GB B w v l w) (hn : n ≤ 1000000) (hl : l.length ≤ 1000000) :
    Calls Tryz.prog 30 #[v, .int .i64 z, .int .u8 0] w fun e w' => ∃ v', e = .returned v' ∧ GB B w v' (padR l n 0) w' := by
  subst hz
  exact padded_any B n 0 l v w h hn hl
end Go.Proofs.YtjcmpkkflboaoaaGreatDoor
