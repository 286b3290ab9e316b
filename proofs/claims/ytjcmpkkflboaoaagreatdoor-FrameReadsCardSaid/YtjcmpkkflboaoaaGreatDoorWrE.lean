/- frame.Write's errors. -/
import Derived.Test.YtjcmpkkflboaoaaGreatDoorWrt
namespace Go.Proofs.YtjcmpkkflboaoaaGreatDoor
open Go.RowKit

theorem write_picE (ad : Nat → Addr) (W H : Int) (f : Nat → Int) (a : Option Addr) (n cap : Nat) (ca : Option Addr) (cn cc : Nat) (w : World) (he : Errs w ad [1, 4]) (hp : IRow w a n f) (hn : n ≤ 9223372036854775807) (g : ¬ picG W H n f) :
    Calls Tryz.prog 7 #[.agg #[.int .i64 W, .int .i64 H, .slice a n cap], .slice ca cn cc] w fun e w' => e = .returned (.tuple #[.slice none 0 0, errV ad (picB W H)]) ∧ Below w.heap.size w w' := by
  have hb0 : ∀ o, Below w.heap.size w (w.alloc o) := fun o => (Below.refl _ _).alloc (Nat.le_refl _) _
  have HV := Lib.hid (fun o => validP_bad ad W H f a n cap (w.alloc o) (he.below (hb0 o)) (hp.below (hb0 o)) hn g)
  have HB0 := Lib.hid hb0
  clear he hp g hn hb0
  unfold errV at *
  generalize picB W H = pb at *
  go_enter Tryz.func7, Tryz.ntmps7
  go_wp2_with fail
  refine (HV.out _).mono ?_; rintro e wa ⟨rfl, hb1⟩
  have HB := Lib.hid (below_step (HB0.out _) hb1)
  clear hb1 HV
  go_wp2
  go_ret2
  exact ⟨rfl, HB.out⟩
theorem write_bound (ad : Nat → Addr) (W H : Int) (f : Nat → Int) (a : Option Addr) (n cap : Nat) (ca : Option Addr) (cn cc : Nat) (w : World) (he : Errs w ad [1, 4]) (hp : IRow w a n f) (g : picG W H n f) (hn : 100 < cn) (hn2 : cn ≤ 9223372036854775807) :
    Calls Tryz.prog 7 #[.agg #[.int .i64 W, .int .i64 H, .slice a n cap], .slice ca cn cc] w fun e w' => e = .returned (.tuple #[.slice none 0 0, errV ad 1]) ∧ Below w.heap.size w w' := by
  have hb0 : ∀ o, Below w.heap.size w (w.alloc o) := fun o => (Below.refl _ _).alloc (Nat.le_refl _) _
  have HV := Lib.hid (fun o => validP_ok ad W H f a n cap (w.alloc o) (he.below (hb0 o)) (hp.below (hb0 o)) g)
  have HB0 := Lib.hid hb0
  have HE := Lib.hid (fun W' (hb : Below w.heap.size w W') => (he.below hb) 1 (by simp))
  have d1 : decide ((100 : Int) < (cn : Int)) = true := decide_eq_true (by omega)
  clear he hp g hb0
  unfold errV at *
  generalize ad 1 = ad1 at *
  go_enter Tryz.func7, Tryz.ntmps7
  go_wp2_with fail
  refine (HV.out _).mono ?_; rintro e wa ⟨rfl, hb1⟩
  have HB := Lib.hid (below_step (HB0.out _) hb1)
  have e1 : wa.cell? ⟨0, 0, none⟩ = some (.iface 170 (.pointer (some ad1))) := HE.out wa HB.out
  clear hb1 HV HE
  go_wp2
  go_quiet (fail)
  have HB2 := Lib.hid (below_drewN HB.out nq)
  go_wp2
  refine bodyPost_ret (v := .tuple #[.slice none 0 0, .iface 170 (.pointer (some ad1))]) ?_ rfl ?_
  · simp [results, Tryz.results7, go_sem]
  · exact ⟨rfl, HB2.out⟩
set_option maxRecDepth 10000 in
set_option maxHeartbeats 2000000 in
theorem write_crdE (ad : Nat → Addr) (V K : Nat) (f : Nat → Int) (a : Option Addr) (n cap : Nat) (cs : List Crd) (ca : Option Addr) (cc : Nat) (w : World) (he : Errs w ad [0, 1, 4, 9]) (ht : Pow10 w) (hp : IRow w a n f) (g : picG V K n f) (hc : CRow w ca cs) (hcc : cs.length ≤ cc) (hlen : cs.length ≤ 100) (hok : ¬ crdOk cs) :
    Calls Tryz.prog 7 #[.agg #[.int .i64 V, .int .i64 K, .slice a n cap], .slice ca cs.length cc] w fun e w' => e = .returned (.tuple #[.slice none 0 0, errV ad (crdE cs - 1)]) ∧ Below w.heap.size w w' := by
  have hb0 : ∀ o, Below w.heap.size w (w.alloc o) := fun o => (Below.refl _ _).alloc (Nat.le_refl _) _
  have HV := Lib.hid (fun o => validP_ok ad V K f a n cap (w.alloc o) ((fun i hi => (he.below (hb0 o)) i (by simp at hi ⊢; omega)) : Errs _ ad [1, 4]) (hp.below (hb0 o)) g)
  obtain ⟨w1, w2, h1, h2, c4, hcn⟩ := g
  have n2 : n ≤ 65536 := (area_bd (f := f) (W := V) (H := K) ⟨w1, w2, h1, h2, c4, hcn⟩).2
  have hV : 1 ≤ V ∧ V ≤ 256 := by omega
  have hK : 1 ≤ K ∧ K ≤ 256 := by omega
  have HEn := Lib.hid (fun W' (hb : Below w.heap.size w W') => (he.below hb) 9 (by simp))
  have HEt := Lib.hid (fun W' (hb : Below w.heap.size w W') => (he.below hb) 0 (by simp))
  have HeN : Hid (¬ nmsOk cs → errV ad (crdE cs - 1) = errV ad 9) := Lib.hid (fun h => by rw [crdE_nm (by omega) h])
  have HeV : Hid (nmsOk cs → ¬ vlsOk cs → errV ad (crdE cs - 1) = errV ad 0) := Lib.hid (fun h h2 => by rw [crdE_vl (by omega) h h2])
  have HBad := Lib.hid hok
  have HCr := Lib.hid (fun W' (hb : Below w.heap.size w W') => hc.below hb)
  have HT := Lib.hid (fun W' (hb : Below w.heap.size w W') => ht.below hb)
  have HB0 := Lib.hid hb0
  have hl1 : decide ((100 : Int) < (cs.length : Int)) = false := decide_eq_false (by omega)
  clear hp hc hok ht he w1 w2 h1 h2 c4 hcn hb0
  generalize errV ad 9 = ev9 at *
  generalize errV ad 0 = ev0 at *
  generalize errV ad (crdE cs - 1) = evC at *
  go_enter Tryz.func7, Tryz.ntmps7
  go_wp2_with fail
  refine (HV.out _).mono ?_; rintro e w1 ⟨rfl, hb1⟩
  have q0 : w1.cell? ⟨w.heap.size, 0, none⟩ = some (.int .i64 V) := by rw [hb1.cell (p := ⟨w.heap.size, 0, none⟩) (by simp)]; simp
  have q1 : w1.cell? ⟨w.heap.size, 1, none⟩ = some (.int .i64 K) := by rw [hb1.cell (p := ⟨w.heap.size, 1, none⟩) (by simp)]; simp
  have q2 : w1.cell? ⟨w.heap.size, 2, none⟩ = some (.slice a n cap) := by rw [hb1.cell (p := ⟨w.heap.size, 2, none⟩) (by simp)]; simp
  have hlt1 : w.heap.size < w1.heap.size := cell_lt q0
  have HB1 := Lib.hid (below_step (HB0.out _) hb1)
  have HF := Lib.hid (fixed_any V K hV.2 hK.2 a n cap w1 (HT.out w1 HB1.out))
  clear hb1 HV HB0 HT
  go_wp2_with fail
  refine HF.out.mono ?_; rintro e w2 ⟨gF, rfl, hGF⟩
  have HGF := Lib.hid hGF
  have HB2 := Lib.hid (below_step HB1.out hGF.2.1)
  have HCF := Lib.hid (fun W' (hb : Below w2.heap.size w2 W') => (HGF.out.below hb).row (fixC_long hV.2 hK.2))
  have HCw := Lib.hid (fun W' (hb : Below w2.heap.size w2 W') => HCr.out W' (below_step HB2.out hb))
  clear hGF HF q0 q1 q2 HCr hlt1
  go_wp2
  go_loopw [31] (fun i wr => ∃ k : Nat, k ≤ cs.length ∧ i = .int .i64 k ∧ Hid (Below w2.heap.size w2 wr) ∧ Hid (∀ j, j < k → nmAt cs j)) (fun i _ => cs.length - (intOf i).toNat)
  case atStart => exact ⟨0, Nat.zero_le _, rfl, Lib.hid (Below.refl _ _), Lib.hid (fun j hj => absurd hj (Nat.not_lt_zero _))⟩
  case round =>
    obtain ⟨k, hk, rfl, hB, HP⟩ := hrel
    by_cases hlt : k < cs.length
    · obtain ⟨bc, oc, rfl, hbl, ⟨c1, c2⟩, l1, l2⟩ := (HCw.out wr hB.out).at hlt
      have hs1 : (bs (nmC cs k)).size ≤ 9223372036854775807 := by rw [bs_size]; exact l1
      clear l1 l2
      have HN1 : Hid (∀ W' q, Below w2.heap.size w2 W' → W'.cell? ⟨q, 0, none⟩ = some (.string (bs (nmC cs k))) → Calls Tryz.prog 20 #[.slice (some ⟨gF, 0, none⟩) 6 6, .func (.func 18) #[] #[.pointer (some ⟨q, 0, none⟩)]] W' fun e w' => BoolIs (∃ i, i < (fixC V K).length ∧ nmC (fixC V K) i = nmC cs k) e ∧ Below W'.heap.size W' w') := Lib.hid (fun W' q hb hq => containsN_any (fixC V K) (some ⟨gF, 0, none⟩) 6 (nmC cs k) q (by show 6 ≤ 9223372036854775807; decide) W' (HCF.out W' hb) hq)
      have htk : (cs.take k).length = k := by rw [List.length_take]; omega
      have HN2 : Hid (∀ W' q, Below w2.heap.size w2 W' → W'.cell? ⟨q, 0, none⟩ = some (.string (bs (nmC cs k))) → Calls Tryz.prog 20 #[.slice (some ⟨bc, oc, none⟩) k cc, .func (.func 18) #[] #[.pointer (some ⟨q, 0, none⟩)]] W' fun e w' => BoolIs (∃ i, i < (cs.take k).length ∧ nmC (cs.take k) i = nmC cs k) e ∧ Below W'.heap.size W' w') := Lib.hid (fun W' q hb hq => by
        have := containsN_any (cs.take k) (some ⟨bc, oc, none⟩) cc (nmC cs k) q (by omega) W' ((HCw.out W' hb).take k) hq
        have e2 : #[.slice (some ⟨bc, oc, none⟩) (cs.take k).length cc, Value.func (.func 18) #[] #[.pointer (some ⟨q, 0, none⟩)]] = #[.slice (some ⟨bc, oc, none⟩) k cc, Value.func (.func 18) #[] #[.pointer (some ⟨q, 0, none⟩)]] := by rw [htk]
        rw [e2] at this
        exact this)
      have HNm : Hid (∀ W', Calls Tryz.prog 19 #[.string (bs (nmC cs k))] W' fun e w' => BoolIs (nmOk (nmC cs k)) e ∧ W' = w') := Lib.hid (fun W' => by
        have := name_any (bs (nmC cs k)) hs1 W'
        rw [bs_list] at this
        exact this)
      have hEt := bs_toList (nmC cs k)
      have HBq0 := Lib.hid (fun o => hB.out.alloc hB.out.size o)
      clear hs1 htk
      generalize bs (nmC cs k) = s at *
      generalize bs (vlC cs k) = t at *
      go_wp2_with fail
      have q0 : (wr.alloc (.cells #[.string s, .string t] 51)).cell? ⟨wr.heap.size, 0, none⟩ = some (.string s) := by simp
      have hlq : wr.heap.size < (wr.alloc (.cells #[.string s, .string t] 51)).heap.size := by simp
      have HBq := Lib.hid (HBq0.out (.cells #[.string s, .string t] 51))
      generalize wr.alloc (.cells #[.string s, .string t] 51) = wq at *
      refine (HNm.out wq).mono ?_; rintro e w3 ⟨hbo, rfl⟩
      have HC1 := Lib.hid (HN1.out wq _ HBq.out q0)
      rcases hbo.cases with ⟨hnm, rfl⟩ | ⟨hnm, rfl⟩
      · have Hnm := Lib.hid hnm
        clear hbo hnm HNm HBq0 c1 c2
        by_cases hend : nmC cs k = [69, 78, 68]
        · have hE : (s.toList == [69, 78, 68]) = true := by rw [hEt, hend, beq_self_eq_true]
          have HEq := Lib.hid (HeN.out (fun h => (h k hlt).2.1 (by rw [show (cs.getD k ([], [])).1 = _ from hend]; unfold ownN; simp)))
          have e9 : wq.cell? ⟨1, 0, none⟩ = some ev9 := HEn.out wq (below_step HB2.out HBq.out)
          have hbx := Lib.hid (below_step HB2.out HBq.out)
          clear hEt hend HC1 HN1 HN2 HBq HP
          go_wp2
          go_quiet (fail)
          have HBy := Lib.hid (below_drewN hbx.out nq)
          go_wp2
          refine bodyPost_ret (v := .tuple #[.slice none 0 0, ev9]) ?_ rfl ?_
          · simp [results, Tryz.results7, go_sem]
          · exact ⟨by rw [HEq.out], HBy.out⟩
        · have hE : (s.toList == [69, 78, 68]) = false := by rw [hEt, beq_eq_false_iff_ne]; exact hend
          have Hend := Lib.hid hend
          clear hend hEt
          go_wp2_with fail
          refine HC1.out.mono ?_; rintro e w4 ⟨hbo, hb4⟩
          have q4 : w4.cell? ⟨wr.heap.size, 0, none⟩ = some (.string s) := (hb4.cell (p := ⟨wr.heap.size, 0, none⟩) hlq).trans q0
          have HB4 := Lib.hid (HBq.out.trans (hb4.mono HBq.out.size))
          have HC2 := Lib.hid (HN2.out w4 _ HB4.out q4)
          rcases hbo.cases with ⟨hin, rfl⟩ | ⟨hin, rfl⟩
          · have Hin := Lib.hid hin
            clear hbo hin
            have HEq := Lib.hid (HeN.out (fun h => (h k hlt).2.1 (by
              obtain ⟨i, h1, h2⟩ := Hin.out
              have := fix_names V K i h1
              rw [h2] at this
              exact this)))
            have e9 : w4.cell? ⟨1, 0, none⟩ = some ev9 := HEn.out w4 (below_step HB2.out HB4.out)
            have hbx := Lib.hid (below_step HB2.out HB4.out)
            clear hE Hend Hin HC1 HC2 HN1 HN2 q0 q4 HBq HB4 hb4 HP
            go_wp2
            go_quiet (fail)
            have HBy := Lib.hid (below_drewN hbx.out nq)
            go_wp2
            refine bodyPost_ret (v := .tuple #[.slice none 0 0, ev9]) ?_ rfl ?_
            · simp [results, Tryz.results7, go_sem]
            · exact ⟨by rw [HEq.out], HBy.out⟩
          · have Hin := Lib.hid hin
            clear hbo hin HC1 HBq hb4 q0
            go_wp2_with fail
            refine HC2.out.mono ?_; rintro e w5 ⟨hbo, hb5⟩
            have HB5 := Lib.hid (HB4.out.trans (hb5.mono HB4.out.size))
            rcases hbo.cases with ⟨hpr, rfl⟩ | ⟨hpr, rfl⟩
            · have Hpr := Lib.hid hpr
              clear hbo hpr
              have HEq := Lib.hid (HeN.out (fun h => (by
                obtain ⟨i, h1, h2⟩ := Hpr.out
                rw [List.length_take] at h1
                rw [nmC_take (by omega)] at h2
                exact (h k hlt).2.2 i (by omega) h2)))
              have e9 : w5.cell? ⟨1, 0, none⟩ = some ev9 := HEn.out w5 (below_step HB2.out HB5.out)
              have hbx := Lib.hid (below_step HB2.out HB5.out)
              clear hE Hend Hin Hpr HC2 HN1 HN2 q4 HB4 HB5 hb5 HP
              go_wp2
              go_quiet (fail)
              have HBy := Lib.hid (below_drewN hbx.out nq)
              go_wp2
              refine bodyPost_ret (v := .tuple #[.slice none 0 0, ev9]) ?_ rfl ?_
              · simp [results, Tryz.results7, go_sem]
              · exact ⟨by rw [HEq.out], HBy.out⟩
            · have HP2 : Hid (∀ j, j < k + 1 → nmAt cs j) := Lib.hid (nms_step HP.out ⟨Hnm.out, (fun h => by
                rcases own_fix V K h with h | ⟨i, h1, h2⟩
                · exact Hend.out h
                · exact Hin.out ⟨i, h1, h2⟩), fun j hj h => hpr ⟨j, by rw [List.length_take]; omega, by rw [nmC_take hj]; exact h⟩⟩)
              clear hbo hpr HC2 HB4 hb5 q4 HN1 HN2 hE Hend Hin HP Hnm
              go_wp2
              go_roundw
              case rel => exact ⟨k + 1, by omega, by go_num, HB5, HP2⟩
              case measure => simp [intOf]; omega
      · have Hnm := Lib.hid hnm
        clear hbo hnm HNm HBq0 c1 c2
        have HEq := Lib.hid (HeN.out (fun h => Hnm.out (h k hlt).1))
        have e9 : wq.cell? ⟨1, 0, none⟩ = some ev9 := HEn.out wq (below_step HB2.out HBq.out)
        have hbx := Lib.hid (below_step HB2.out HBq.out)
        clear hEt HC1 HN1 HN2 q0 HBq HP
        go_wp2
        go_quiet (fail)
        have HBy := Lib.hid (below_drewN hbx.out nq)
        go_wp2
        refine bodyPost_ret (v := .tuple #[.slice none 0 0, ev9]) ?_ rfl ?_
        · simp [results, Tryz.results7, go_sem]
        · exact ⟨by rw [HEq.out], HBy.out⟩
    · obtain rfl : k = cs.length := by omega
      have HNs : Hid (nmsOk cs) := Lib.hid HP.out
      have HYes : Hid (∃ i, i < cs.length ∧ ¬ vlOk (vlC cs i)) := Lib.hid (Classical.byContradiction fun h => HBad.out ⟨hlen, HNs.out, fun i hi => Classical.byContradiction fun h2 => h ⟨i, hi, h2⟩⟩)
      have HEq := Lib.hid (HeV.out HNs.out (fun h => by
        obtain ⟨i, hi, h2⟩ := HYes.out
        exact h2 (h i hi)))
      have HCv := Lib.hid (containsV_any cs ca cc (by omega) wr (HCw.out wr hB.out))
      go_wp2_with fail
      refine HCv.out.mono ?_; rintro e w3 ⟨hbo, hb3⟩
      obtain rfl := hbo.yes HYes.out
      have hbx := Lib.hid (below_step HB2.out (below_step hB.out hb3))
      have e0 : w3.cell? ⟨2, 0, none⟩ = some ev0 := HEt.out w3 hbx.out
      clear hbo hb3 HCv HP
      go_wp2
      go_quiet (fail)
      have HBy := Lib.hid (below_drewN hbx.out nq)
      go_wp2
      refine bodyPost_ret (v := .tuple #[.slice none 0 0, ev0]) ?_ rfl ?_
      · simp [results, Tryz.results7, go_sem]
      · exact ⟨by rw [HEq.out], HBy.out⟩
end Go.Proofs.YtjcmpkkflboaoaaGreatDoor
