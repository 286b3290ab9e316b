/- frame.fixed. -/
import Derived.Test.YtjcmpkkflboaoaaGreatDoorCrdG
import Derived.Test.YtjcmpkkflboaoaaGreatDoorCtn
import Derived.Test.YtjcmpkkflboaoaaGreatDoorPow10
import Derived.Test.YtjcmpkkflboaoaaGreatDoorCrdR
namespace Go.Proofs.YtjcmpkkflboaoaaGreatDoor
open Go.RowKit

theorem itoa_any (n : Nat) (hn : n ≤ 1000000) (W : World) (ht : Pow10 W) :
    Calls Tryz.prog 41 #[.int .i64 n] W fun e w' => ∃ s, e = .returned (.string s) ∧ Hid (s = bs (Lib.decDigits n)) ∧ Below W.heap.size W w' := by
  refine (Tryz.strconv_Itoa n (by omega) (by omega) W ht).mono ?_
  rintro e w' ⟨rfl, k, os, rfl⟩
  exact ⟨_, rfl, Lib.hid (by rw [Lib.itoa_nonneg]; rfl), Lib.below_grow _ _ (Nat.le_refl _) _ _⟩
/-- Cards laid at once. -/
theorem GC.fresh {B : Nat} {w wr : World} {L : List Crd} (h : Below B w wr) (hB : B ≤ w.heap.size) (hL : L.length ≤ 1000) : GC B w (.slice (some ⟨wr.heap.size, 0, none⟩) L.length L.length) L (wr.alloc (.cells (encC L).toArray 51)) := by
  have hs := h.size
  refine ⟨⟨encC_len L, Or.inr ⟨wr.heap.size, L.length, (encC L).toArray, rfl, by omega, heap_alloc_new wr _, Nat.le_refl _, by unfold maxLen; omega, by rw [List.size_toArray, encC_len], ?_⟩⟩, h.alloc (by omega) _, hB⟩
  rw [← encC_len, List.take_length]
set_option maxRecDepth 20000 in
set_option maxHeartbeats 2000000 in
theorem fixed_any (V K : Nat) (hV : V ≤ 256) (hK : K ≤ 256) (a : Option Addr) (n cap : Nat) (w : World) (ht : Pow10 w) :
    Calls Tryz.prog 17 #[.agg #[.int .i64 V, .int .i64 K, .slice a n cap]] w fun e w' => ∃ g, e = .returned (.slice (some ⟨g, 0, none⟩) 6 6) ∧ GC w.heap.size w (.slice (some ⟨g, 0, none⟩) 6 6) (fixC V K) w' := by
  have hb0 : ∀ o, Below w.heap.size w (w.alloc o) := fun o => (Below.refl _ _).alloc (Nat.le_refl _) _
  have HB0 := Lib.hid hb0
  have HP := Lib.hid ht
  have HIV := Lib.hid (fun W h => itoa_any V (by omega) W h)
  have HIK := Lib.hid (fun W h => itoa_any K (by omega) W h)
  clear hb0 ht
  go_enter Tryz.func17, Tryz.ntmps17
  go_wp2
  obtain ⟨O, hO⟩ : ∃ O : Obj, Obj.cells #[.int .i64 V, .int .i64 K, .slice a n cap] 33 = O := ⟨_, rfl⟩
  have c0 : (w.alloc O).cell? ⟨w.heap.size, 0, none⟩ = some (.int .i64 V) := by subst hO; simp
  have c1 : (w.alloc O).cell? ⟨w.heap.size, 1, none⟩ = some (.int .i64 K) := by subst hO; simp
  have hl : w.heap.size < (w.alloc O).heap.size := by subst hO; simp
  have hw0 := HB0.out O
  have hP1 := HP.out.below hw0
  rw [hO]
  clear hO
  have HW := Lib.hid hw0
  have HP1 := Lib.hid hP1
  clear hw0 hP1
  generalize w.alloc O = w1 at *
  have HS : Hid (∀ W', Below w1.heap.size w1 W' → (W'.cell? ⟨w.heap.size, 0, none⟩ = some (.int .i64 V) ∧ W'.cell? ⟨w.heap.size, 1, none⟩ = some (.int .i64 K))) := Lib.hid (fun W' hb => ⟨(hb.cell (p := ⟨w.heap.size, 0, none⟩) hl).trans c0, (hb.cell (p := ⟨w.heap.size, 1, none⟩) hl).trans c1⟩)
  have HBd := Lib.hid ((Below.refl w1.heap.size w1).drew)
  have HS1 := Lib.hid (HS.out w1.drew HBd.out)
  have HS3 := Lib.hid (fun w3 (hb : Below w1.drew.heap.size w1.drew w3) => HS.out w3 (below_step HBd.out hb))
  have HS4 := Lib.hid (fun w3 w4 (hb : Below w1.drew.heap.size w1.drew w3) (hb' : Below w3.heap.size w3 w4) => HS.out w4 (below_step (below_step HBd.out hb) hb'))
  have HS5 := Lib.hid (fun w3 w4 (hb : Below w1.drew.heap.size w1.drew w3) (hb' : Below w3.heap.size w3 w4) o => HS.out (w4.alloc o) ((below_step (below_step HBd.out hb) hb').alloc (below_step (below_step HBd.out hb) hb').size o))
  have HV1 := Lib.hid (HIV.out w1.drew (HP1.out.below HBd.out))
  have HK1 := Lib.hid (HIK.out w1.drew (HP1.out.below HBd.out))
  have HV2 := Lib.hid (fun w3 (hb : Below w1.drew.heap.size w1.drew w3) => HIV.out w3 (HP1.out.below (below_step HBd.out hb)))
  have HK2 := Lib.hid (fun w3 (hb : Below w1.drew.heap.size w1.drew w3) => HIK.out w3 (HP1.out.below (below_step HBd.out hb)))
  clear HIV HIK HP HP1 HB0
  go_region_held3 (fun w' => w'.cell? ⟨w.heap.size, 0, none⟩ = some (.int .i64 V) ∧ w'.cell? ⟨w.heap.size, 1, none⟩ = some (.int .i64 K))
    (first | (exact HS5.out _ _ hb3 hb4 _) | (exact HS4.out _ _ hb3 hb4) | (exact HS3.out _ hb3) | (exact HS1.out) | go_keep)
    (first
      | (go_at_call 41; with_reducible refine (HV2.out w3 hb3).mono ?_; rintro e w4 ⟨s4, rfl, hs4, hb4⟩)
      | (go_at_call 41; with_reducible refine (HK2.out w3 hb3).mono ?_; rintro e w4 ⟨s4, rfl, hs4, hb4⟩)
      | (go_at_call 41; with_reducible refine HV1.out.mono ?_; rintro e w3 ⟨s3, rfl, hs3, hb3⟩)
      | (go_at_call 41; with_reducible refine HK1.out.mono ?_; rintro e w3 ⟨s3, rfl, hs3, hb3⟩))
  all_goals
    have HG : Hid (GC w.heap.size w (.slice (some ⟨w4.heap.size, 0, none⟩) 6 6) (fixC V K) (w4.alloc (.cells (encC (fixC V K)).toArray 51))) := Lib.hid (GC.fresh (L := fixC V K) (below_step HW.out (below_step HBd.out (below_step hb3 hb4))) (Nat.le_refl _) (by show 6 ≤ 1000; decide))
    obtain rfl := hs3.out
    obtain rfl := hs4.out
    clear hb3 hb4 HS5 HS4 HS3 HS1 HS HW HBd HV1 HK1 HV2 HK2 c0 c1
    go_wp2
    go_ret
    exact ⟨_, rfl, HG.out⟩
end Go.Proofs.YtjcmpkkflboaoaaGreatDoor
