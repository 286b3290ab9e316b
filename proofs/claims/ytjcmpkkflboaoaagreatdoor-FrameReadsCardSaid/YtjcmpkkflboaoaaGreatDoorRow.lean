/- frame.row, frame.filled. -/
import Derived.Test.YtjcmpkkflboaoaaGreatDoorRep
import Derived.Test.YtjcmpkkflboaoaaGreatDoorCtn
import Derived.Test.YtjcmpkkflboaoaaGreatDoorFilP
import Derived.Test.YtjcmpkkflboaoaaGreatDoorCrdR
import Derived.Lib.BufferWrite
namespace Go.Proofs.YtjcmpkkflboaoaaGreatDoor
open Go.RowKit

/-- copy from a string into a buffer that is full. -/
theorem Buf_over {w0 wr : World} {h N : Nat} {acc : List UInt8} (hb : Lib.Buf w0 wr h N acc) (hN : acc.length = N) (s : ByteArray) (o dLen dCap : Nat) (ty : TypeId) (ho : o + s.size ≤ N) (hd : s.size ≤ dLen) :
    ∃ wr', (Builtin.copy_ #[27, 9] ty #[.slice (some ⟨h, o, none⟩) dLen dCap, .string s]).run Tryz.prog wr = .ok (.int .i64 (s.size : Int)) wr' ∧ Lib.Buf w0 wr' h N (acc.take o ++ (s.data.toList ++ acc.drop (o + s.size))) := by
  have hsz : s.data.toList.length = s.size := ba_len s
  have hmin : Nat.min s.size dLen = s.size := Nat.min_eq_left hd
  have hst := run_storeCells_cells (P := Tryz.prog) h o (encB s.data.toList) 0 wr (by rw [encB_len, hsz]; intro j hj; exact hb.there _ (by omega)) (by rw [encB_len, hsz]; intro j hj; exact hb.free _ (by omega)) (encB_cells _)
  have hr : (Builtin.copy_ #[27, 9] ty #[.slice (some ⟨h, o, none⟩) dLen dCap, .string s]).run Tryz.prog wr = .ok (.int .i64 (s.size : Int)) (wr.setCells h o (encB s.data.toList)) := by
    have hq : (Tryz.prog.info? 5).map (·.size) = some 1 := by kernel_rfl
    have htk : List.take s.size (List.map (fun b : UInt8 => Value.int IntKind.u8 (b.toNat : Int)) s.data.toList) = encB s.data.toList := by
      rw [List.take_of_length_le (by rw [List.length_map, hsz]; exact Nat.le_refl _)]
      rfl
    cases hqi : Tryz.prog.info? 5 with
    | none => simp [hqi] at hq
    | some i =>
      have hi : i.size = 1 := by simpa [hqi] using hq
      simp [Builtin.copy_, run_underlying Tryz.underlying27, Builtin.lenOf, Builtin.firstCells, sizeOf, typeInfo, hqi, hmin, htk]
      simp at hst
      rw [hst]
      rfl
  refine ⟨_, hr, ?_⟩
  have hin := World.cell?_setCells_in h (encB s.data.toList) o wr (fun j hj => by rw [encB_len, hsz] at hj; exact hb.there _ (by omega))
  have hout := World.cell?_setCells_out h (encB s.data.toList) o wr
  have hlen : (acc.take o ++ (s.data.toList ++ acc.drop (o + s.size))).length = N := by
    rw [List.length_append, List.length_append, List.length_take, List.length_drop, hsz]
    omega
  refine ⟨Lib.below_setCells h (Nat.le_refl _) _ _ hb.below, ?_, ?_, ?_, Nat.le_of_eq hlen⟩
  · intro j hj
    by_cases h1 : o ≤ j ∧ j < o + s.size
    · obtain ⟨d, rfl⟩ : ∃ d, j = o + d := ⟨j - o, by omega⟩
      rw [hin d (by rw [encB_len, hsz]; omega)]
      rfl
    · rw [hout ⟨h, j, none⟩ (fun _ _ => by rw [encB_len, hsz]; show j < _ ∨ _ ≤ j; omega)]
      exact hb.there j hj
  · intro j hj
    rw [World.frozen?_setCells]
    exact hb.free j hj
  · intro j x hx
    by_cases h1 : j < o
    · rw [List.getElem?_append_left (by rw [List.length_take]; omega), List.getElem?_take_of_lt h1] at hx
      rw [hout ⟨h, j, none⟩ (fun _ _ => Or.inl h1)]
      exact hb.holds j x hx
    · rw [List.getElem?_append_right (by rw [List.length_take]; omega), List.length_take, Nat.min_eq_left (by omega)] at hx
      by_cases h2 : j < o + s.size
      · obtain ⟨d, rfl⟩ : ∃ d, j = o + d := ⟨j - o, by omega⟩
        rw [Nat.add_sub_cancel_left, List.getElem?_append_left (by omega)] at hx
        rw [hin d (by rw [encB_len, hsz]; omega)]
        unfold encB
        simp [List.getElem_map, (List.getElem?_eq_some_iff.1 hx).2]
      · rw [List.getElem?_append_right (by omega), List.getElem?_drop, show o + s.size + (j - o - s.data.toList.length) = j by omega] at hx
        rw [hout ⟨h, j, none⟩ (fun _ _ => Or.inr (by rw [encB_len, hsz]; show _ ≤ j; omega))]
        exact hb.holds j x hx
/-- The two copies make a card's row. -/
theorem row_copies {c : Crd} (h : shortC c) : (c.1 ++ (List.replicate 80 (32 : UInt8)).drop (0 + c.1.length)).take 8 ++ (([61, 32] ++ c.2) ++ (c.1 ++ (List.replicate 80 (32 : UInt8)).drop (0 + c.1.length)).drop (8 + (2 + c.2.length))) = rowC c := by
  obtain ⟨h1, h2⟩ := h
  unfold rowC padR
  rw [Nat.zero_add, List.drop_replicate, List.take_append, List.take_of_length_le h1, List.take_replicate, List.drop_append, List.drop_eq_nil_of_le (by omega), List.drop_replicate, List.nil_append]
  simp only [List.length_append, List.length_replicate, List.length_cons, List.length_nil, List.append_assoc]
  rw [show min (8 - c.1.length) (80 - c.1.length) = 8 - c.1.length by omega, show 80 - c.1.length - (8 + (2 + c.2.length) - c.1.length) = 80 - (c.1.length + (8 - c.1.length + (0 + 1 + 1 + c.2.length))) by omega]
/-- Bytes at the head of a block. -/
def BAt (w : World) (g : Nat) (l : List UInt8) : Prop := ∀ (j : Nat) x, l[j]? = some x → w.cell? ⟨g, j, none⟩ = some (.int .u8 (x.toNat : Int))
theorem BAt.news {w : World} {g : Nat} {l : List UInt8} (h : BAt w g l) : ∀ j u, (encB l)[j]? = some u → w.cell? ((⟨g, 0, none⟩ : Addr).add j) = some u := fun j u hu => by
  unfold encB at hu
  rw [List.getElem?_map] at hu
  obtain ⟨x, hx, rfl⟩ := Option.map_eq_some_iff.1 hu
  rw [add_litB, Nat.zero_add]
  exact h j x hx
theorem str_two (t : ByteArray) : ((⟨#[61, 32]⟩ : ByteArray) ++ t).data.toList = [61, 32] ++ t.data.toList ∧ ((⟨#[61, 32]⟩ : ByteArray) ++ t).size = 2 + t.size := by
  have h1 : ((⟨#[61, 32]⟩ : ByteArray) ++ t).data.toList = [61, 32] ++ t.data.toList := by
    rw [ByteArray.data_append, Array.toList_append]
  refine ⟨h1, ?_⟩
  rw [← ba_len, h1, List.length_append, ba_len]
  rfl
set_option maxRecDepth 20000 in
set_option maxHeartbeats 1000000 in
theorem row_any (c : Crd) (hc : shortC c) (w : World) :
    Calls Tryz.prog 23 #[aggC c] w fun e w' => ∃ g, e = .returned (.slice (some ⟨g, 0, none⟩) 80 80) ∧ Hid (BAt w' g (rowC c)) ∧ Below w.heap.size w w' := by
  have hsn : (bs c.1).size = c.1.length := bs_size c.1
  have hsv : (bs c.2).size = c.2.length := bs_size c.2
  have hn8 := hc.1
  have hv70 := hc.2
  have HR := Lib.hid (fun W q cap hq => repeat_any 32 80 q cap (by decide) (by decide) W hq)
  have HC := Lib.hid (row_copies hc)
  have HN : Hid ((bs c.1).data.toList = c.1) := Lib.hid (bs_list _)
  have HV : Hid ((bs c.2).data.toList = c.2) := Lib.hid (bs_list _)
  have hb0 : ∀ o o', Below w.heap.size w ((w.alloc o).alloc o') := fun o o' => ((Below.refl _ _).alloc (Nat.le_refl _) _).alloc (by simp) _
  have HB0 := Lib.hid hb0
  clear hb0 hc
  unfold aggC
  generalize bs c.1 = s at *
  generalize bs c.2 = t at *
  go_enter Tryz.func23, Tryz.ntmps23
  go_wp2_with fail
  have q0 : ((w.alloc (.cells #[.string s, .string t] 51)).alloc (.cells #[.int .u8 32] 5)).cell? ⟨w.heap.size, 0, none⟩ = some (.string s) := by simp
  have q1 : ((w.alloc (.cells #[.string s, .string t] 51)).alloc (.cells #[.int .u8 32] 5)).cell? ⟨w.heap.size, 1, none⟩ = some (.string t) := by simp
  have q2 : ((w.alloc (.cells #[.string s, .string t] 51)).alloc (.cells #[.int .u8 32] 5)).cell? ⟨w.heap.size + 1, 0, none⟩ = some (.int .u8 32) := by simp
  have hs2 : w.heap.size < ((w.alloc (.cells #[.string s, .string t] 51)).alloc (.cells #[.int .u8 32] 5)).heap.size := by simp; omega
  have HW := Lib.hid (HB0.out (.cells #[.string s, .string t] 51) (.cells #[.int .u8 32] 5))
  generalize (w.alloc (.cells #[.string s, .string t] 51)).alloc (.cells #[.int .u8 32] 5) = w2 at *
  refine (HR.out w2 _ _ q2).mono ?_; rintro e w3 ⟨rfl, HBu⟩
  have l0 : w3.cell? ⟨w.heap.size, 0, none⟩ = some (.string s) := (HBu.out.below.cell (p := ⟨w.heap.size, 0, none⟩) hs2).trans q0
  have hl8 : s.size ≤ 8 := by omega
  obtain ⟨w4, hr1, B1⟩ := Buf_over HBu.out (by rw [List.length_replicate]) s 0 80 80 3 (by omega) (by omega)
  have l1 : w4.cell? ⟨w.heap.size, 1, none⟩ = some (.string t) := (B1.below.cell (p := ⟨w.heap.size, 1, none⟩) hs2).trans q1
  have l1' : w4.drew.cell? ⟨w.heap.size, 1, none⟩ = some (.string t) := ((B1.below.drew).cell (p := ⟨w.heap.size, 1, none⟩) hs2).trans q1
  obtain ⟨e1, e2⟩ := str_two t
  have hlen : (List.take 0 (List.replicate 80 (32 : UInt8)) ++ (s.data.toList ++ List.drop (0 + s.size) (List.replicate 80 (32 : UInt8)))).length = 80 := by
    rw [List.length_append, List.length_append, List.length_take, List.length_drop, List.length_replicate, ba_len]
    omega
  obtain ⟨w5, hr2, B2⟩ := Buf_over (Buf_drew B1) hlen ((⟨#[61, 32]⟩ : ByteArray) ++ t) 8 72 72 3 (by omega) (by omega)
  have HB2 : Hid (Lib.Buf w2 w5 w2.heap.size 80 (rowC c)) := Lib.hid (by
    rw [e1, e2, HN.out, HV.out, hsn, hsv, List.take_zero, List.nil_append, HC.out] at B2
    exact B2)
  clear B1 B2 HBu HR q0 q1 q2 hlen e1 HC
  go_wp2_with (at_builtin; refine Lib.wpList_copy_run _ rfl _ _ 27 9 rfl _ _ rfl rfl hr1 ?_)
  clear hr1 l0
  have hc9 : ¬ 9223372036854775807 < 2 + c.2.length := by omega
  go_region_law (refine step_copy_eq (by rfl) (.tmp 11) (.tmp 14) 27 9 (by rfl) (.slice (some ⟨w2.heap.size, 8, none⟩) 72 72) (.string ((⟨#[61, 32]⟩ : ByteArray) ++ t)) (by simp [Act.eval, Act.put]) (by simp [Act.eval, Act.put]) hr2 ?_)
  all_goals
    go_wp2
    go_ret
    exact ⟨_, rfl, Lib.hid HB2.out.holds, below_step HW.out HB2.out.below⟩
end Go.Proofs.YtjcmpkkflboaoaaGreatDoor
