/- frame.Median: slices.Sorted(slices.Values(l)), the lower middle one. -/
import Derived.Test.YthbekddpnkammaaGreatDoorSeq
import Derived.Test.YthbekddpnkammaaGreatDoorSortSh
import Derived.Lib.SlKeysI
namespace Go.Proofs.YthbekddpnkammaaGreatDoor
open Go.RowKit Go.Shelf Go.Sort

theorem values_any (a : Option Addr) (n cap : Nat) (w : World) :
    Calls Tryz.prog 139 #[.slice a n cap] w fun e w' => e = .returned (.func (.func 153) #[] #[.pointer (some ⟨w.heap.size, 0, none⟩)]) ∧ w' = w.alloc (.cells #[.slice a n cap] 29) := by
  go_enter Tryz.func139, Tryz.ntmps139
  go_wp2
  go_ret
  exact ⟨rfl, rfl⟩
theorem collect_any (Bs b off len cap : Nat) (f : Nat → Int) (hreach : len ≤ 1000000) (w : World) (hBs : Bs < w.heap.size) (hb : b < w.heap.size)
    (hc : w.cell? ⟨Bs, 0, none⟩ = some (.slice (some ⟨b, off, none⟩) len cap)) (hI : ∀ j, j < len → w.cell? ⟨b, off + j, none⟩ = some (.int .i64 (f j))) :
    Calls Tryz.prog 151 #[.func (.func 153) #[] #[.pointer (some ⟨Bs, 0, none⟩)]] w fun e W' => ∃ v, e = .returned v ∧ W'.ownsRow w.heap.size 3 1 v len ((upto f len).map (Value.int .i64)) ∧ Below w.heap.size w W' := by
  have H := Lib.hid (callsIn_wide.1 (appendSeq_in Fence.wide 5 trivial trivial rfl (by decide) Bs b off len cap f hreach w hBs hb hc hI))
  clear hc hI
  go_enter Tryz.func151, Tryz.ntmps151
  go_wp2_with fail
  refine H.out.mono ?_; rintro e w1 ⟨v, rfl, ho, hb1⟩
  have HO := Lib.hid ho
  have HB := Lib.hid hb1
  clear ho hb1 H
  go_wp2
  go_ret
  exact ⟨v, rfl, HO.out, HB.out⟩
theorem sorted_any (Bs b off len cap : Nat) (f : Nat → Int) (h0 : 0 < len) (hreach : len ≤ 1000000) (w : World) (hBs : Bs < w.heap.size) (hb : b < w.heap.size)
    (hc : w.cell? ⟨Bs, 0, none⟩ = some (.slice (some ⟨b, off, none⟩) len cap)) (hI : ∀ j, j < len → w.cell? ⟨b, off + j, none⟩ = some (.int .i64 (f j))) :
    Calls Tryz.prog 138 #[.func (.func 153) #[] #[.pointer (some ⟨Bs, 0, none⟩)]] w fun e W' => ∃ g c, e = .returned (.slice (some ⟨g, 0, none⟩) len c) ∧ (∀ j, j < len → W'.cell? ⟨g, j, none⟩ = some (.int .i64 ((srt (upto f len)).getD j 0))) ∧ Below w.heap.size w W' := by
  have H := Lib.hid (collect_any Bs b off len cap f hreach w hBs hb hc hI)
  have hlen := upto_len f len
  clear hc hI
  generalize upto f len = zs at *
  subst hlen
  go_enter Tryz.func138, Tryz.ntmps138
  go_wp2_with fail
  refine H.out.mono ?_; rintro e w1 ⟨v, rfl, ho, hb1⟩
  obtain ⟨g, c, cur, rfl, hbase, hgb, h1, h2, h3, h4⟩ : ∃ g c cur, v = .slice (some ⟨g, 0, none⟩) zs.length c ∧ w.heap.size ≤ g ∧ w1.heap[g]? = some (.cells cur 3 (0, 0)) ∧ zs.length ≤ c ∧ c ≤ maxLen ∧ cur.size = c * 1 ∧ cur.toList.take (zs.length * 1) = zs.map (Value.int .i64) := by
    rcases ho.2 with ⟨_, h⟩ | h
    · omega
    · exact h
  have hH : Holds (Value.int .i64) w1 g 0 zs.toArray := holds_of_block_i hgb (by simpa using h4)
  have hgl : g < w1.heap.size := (Array.getElem?_eq_some_iff.1 hgb).1
  have HS := Lib.hid (Tryz.slices_Sort_int g 0 c zs w1 hH hgl (by omega))
  have HO : Hid (∀ n os, Gath w (.slice (some ⟨g, 0, none⟩) zs.length c) (srt zs) (grow (putRow (Value.int .i64) (Sort.ahead w1 n) g 0 (zs.mergeSort fun x y => decide (x ≤ y)).toArray) os)) := Lib.hid (fun n os => by
    have e1 : (srt zs).length = zs.length := srt_len zs
    refine ⟨?_, ?_⟩
    · have := ownsRow_sorted_i (n := n) (os := os) (base := w.heap.size) (ss := zs) (ts := zs.mergeSort fun x y => decide (x ≤ y)) (by simp) hbase hgb h1 h2 h3
      rw [e1]
      exact this
    · exact hb1.grown (grownBy_sorted_i _) hb1.size (fun j hj => by cases hj; exact hbase))
  clear ho hb1 hgb h1 h2 h3 h4 hH H
  go_wp2_with fail
  refine HS.out.mono ?_; rintro e w2 ⟨rfl, n, os, rfl⟩
  have HG := Lib.hid (HO.out n os)
  generalize grow (putRow (Value.int .i64) (Sort.ahead w1 n) g 0 (zs.mergeSort fun x y => decide (x ≤ y)).toArray) os = W2 at *
  clear HS HO
  go_wp2
  go_ret
  obtain ⟨a', c', e', hr⟩ := HG.out.row
  rw [srt_len] at e' hr
  cases e'
  refine ⟨g, c, rfl, fun j hj => ?_, HG.out.2⟩
  obtain ⟨b', o', e2, _, hcell⟩ := hr.at hj
  cases e2
  rw [Nat.zero_add] at hcell
  exact hcell
set_option maxHeartbeats 1000000 in
theorem median_any (f : Nat → Int) (a : Option Addr) (n cap : Nat) (h0 : 0 < n) (hn : n ≤ 1000000) (w : World) (h : IRow w a n f) :
    Calls Tryz.prog 119 #[.slice a n cap] w fun e w' => e = .returned (.int .i64 (medL (upto f n))) ∧ Below w.heap.size w w' := by
  obtain ⟨b, off, rfl, hb, _⟩ := h.at h0
  have hI : ∀ j, j < n → w.cell? ⟨b, off + j, none⟩ = some (.int .i64 (f j)) := fun j hj => by
    obtain ⟨b', o', e', _, hc⟩ := h.at hj
    cases e'
    exact hc
  have hb0 : ∀ o, Below w.heap.size w (w.alloc o) := fun o => (Below.refl _ _).alloc (Nat.le_refl _) _
  have HV := Lib.hid (values_any (some ⟨b, off, none⟩) n cap w)
  have HS := Lib.hid (sorted_any w.heap.size b off n cap f h0 hn (w.alloc (.cells #[.slice (some ⟨b, off, none⟩) n cap] 29)) (by simp) (by simp; omega) (by simp) (fun j hj => by rw [(hb0 _).cell (p := ⟨b, off + j, none⟩) hb]; exact hI j hj))
  have HB := Lib.hid (hb0 (.cells #[.slice (some ⟨b, off, none⟩) n cap] 29))
  have hM : Hid (medL (upto f n) = (srt (upto f n)).getD ((n - 1) / 2) 0) := Lib.hid (by unfold medL; rw [upto_len])
  clear h hI hb0
  generalize medL (upto f n) = m at *
  go_enter Tryz.func119, Tryz.ntmps119
  go_wp2_with fail
  refine HV.out.mono ?_; rintro e w1 ⟨rfl, rfl⟩
  clear HV
  go_wp2_with fail
  refine HS.out.mono ?_; rintro e w2 ⟨g, c, rfl, hc, hb2⟩
  have B2 := Lib.hid (below_step HB.out hb2)
  have c0 := hc ((n - 1) / 2) (by omega)
  have e1 : ((n : Int) - 1) / 2 = (((n - 1) / 2 : Nat) : Int) := by omega
  rw [← hM.out] at c0
  clear hc hb2 HB HS hM
  generalize (n - 1) / 2 = k at *
  have hk : k < n := by omega
  go_wp2
  go_ret
  exact ⟨rfl, B2.out⟩
end Go.Proofs.YthbekddpnkammaaGreatDoor
