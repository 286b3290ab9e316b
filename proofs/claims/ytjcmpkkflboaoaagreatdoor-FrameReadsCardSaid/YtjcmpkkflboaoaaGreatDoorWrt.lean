/- frame.Write. -/
import Derived.Test.YtjcmpkkflboaoaaGreatDoorFll
import Derived.Test.YtjcmpkkflboaoaaGreatDoorFix
import Derived.Test.YtjcmpkkflboaoaaGreatDoorCtx
import Derived.Test.YtjcmpkkflboaoaaGreatDoorAre
import Derived.Test.YtjcmpkkflboaoaaGreatDoorFilO
import Derived.Test.YtjcmpkkflboaoaaGreatDoorApp
namespace Go.Proofs.YtjcmpkkflboaoaaGreatDoor
open Go.RowKit

theorem CRow.take {w : World} {a : Option Addr} {cs : List Crd} (h : CRow w a cs) (k : Nat) : CRow w a (cs.take k) := by
  rcases h with rfl | ⟨b, o, rfl, h⟩
  · exact Or.inl (List.take_nil ..)
  · refine Or.inr ⟨b, o, rfl, fun i hi => ?_⟩
    rw [List.length_take] at hi
    have e : (cs.take k).getD i ([], []) = cs.getD i ([], []) := by
      rw [List.getD_eq_getElem?_getD, List.getD_eq_getElem?_getD, List.getElem?_take_of_lt (by omega)]
    have := h i (by omega)
    unfold nmC vlC at *
    rw [e]
    exact this
theorem nmC_take {cs : List Crd} {k i : Nat} (h : i < k) : nmC (cs.take k) i = nmC cs i := by
  unfold nmC
  rw [List.getD_eq_getElem?_getD, List.getD_eq_getElem?_getD, List.getElem?_take_of_lt h]
theorem fix_names (V K : Nat) : ∀ i, i < 6 → nmC (fixC V K) i ∈ ownN := by
  intro i hi
  have : i = 0 ∨ i = 1 ∨ i = 2 ∨ i = 3 ∨ i = 4 ∨ i = 5 := by omega
  rcases this with rfl | rfl | rfl | rfl | rfl | rfl
  all_goals (unfold nmC fixC ownN; simp)
theorem own_fix (V K : Nat) {l : List UInt8} (h : l ∈ ownN) : l = [69, 78, 68] ∨ ∃ i, i < 6 ∧ nmC (fixC V K) i = l := by
  unfold ownN at h
  simp only [List.mem_cons, List.not_mem_nil, or_false] at h
  rcases h with rfl | rfl | rfl | rfl | rfl | rfl | rfl
  · exact Or.inr ⟨0, by decide, rfl⟩
  · exact Or.inr ⟨1, by decide, rfl⟩
  · exact Or.inr ⟨2, by decide, rfl⟩
  · exact Or.inr ⟨3, by decide, rfl⟩
  · exact Or.inr ⟨4, by decide, rfl⟩
  · exact Or.inr ⟨5, by decide, rfl⟩
  · exact Or.inl rfl
theorem BoolIs.yes {P : Prop} {e : Ending} (h : BoolIs P e) (p : P) : e = .returned (.bool true) := by
  rcases h.cases with ⟨_, h⟩ | ⟨n, _⟩
  · exact h
  · exact absurd p n
theorem BoolIs.no {P : Prop} {e : Ending} (h : BoolIs P e) (p : ¬ P) : e = .returned (.bool false) := by
  rcases h.cases with ⟨n, _⟩ | ⟨_, h⟩
  · exact absurd n p
  · exact h
theorem fixC_long {V K : Nat} (hV : V ≤ 256) (hK : K ≤ 256) : ∀ c, c ∈ fixC V K → c.1.length ≤ 9223372036854775807 ∧ c.2.length ≤ 9223372036854775807 := fun c hc => by
  have := fixC_short hV hK c hc
  have h1 := this.1
  have h2 := this.2
  omega
theorem wrap_i16 {x : Int} (h1 : -32768 ≤ x) (h2 : x ≤ 32767) : IntKind.i16.wrap x = x := by
  unfold IntKind.wrap
  simp [IntKind.signed, IntKind.bits]
  split <;> omega
theorem wrap_u16 (x : Int) : IntKind.u16.wrap x = x % 65536 := by
  unfold IntKind.wrap
  simp [IntKind.signed, IntKind.bits]
theorem str_end (t : ByteArray) : ((⟨#[69, 78, 68]⟩ : ByteArray) ++ t).data.toList = [69, 78, 68] ++ t.data.toList ∧ ((⟨#[69, 78, 68]⟩ : ByteArray) ++ t).size = 3 + t.size := by
  have h1 : ((⟨#[69, 78, 68]⟩ : ByteArray) ++ t).data.toList = [69, 78, 68] ++ t.data.toList := by
    rw [ByteArray.data_append, Array.toList_append]
  refine ⟨h1, ?_⟩
  rw [← ba_len, h1, List.length_append, ba_len]
  rfl
theorem repeat32 (c : Nat) : Lib.repeatL [32] c = List.replicate c 32 := by
  have h := Lib.repeatL_replicate 32 1 c
  simpa using h
theorem repeat77 (W : World) : Calls Tryz.prog 25 #[.string ⟨#[32]⟩, .int .i64 77] W fun e w' => e = .returned (.string (bs (List.replicate 77 32))) ∧ Below W.heap.size W w' := by
  refine (Tryz.strings_Repeat ⟨#[32]⟩ 77 W (by decide) (by decide)).mono ?_
  rintro e w' ⟨rfl, hb⟩
  refine ⟨?_, hb⟩
  show Ending.returned (.string (bs (Lib.repeatL [32] 77))) = _
  rw [repeat32]
set_option maxRecDepth 10000 in
set_option maxHeartbeats 1000000 in
theorem write_ok (ad : Nat → Addr) (V K : Nat) (f : Nat → Int) (a : Option Addr) (n cap : Nat) (cs : List Crd) (ca : Option Addr) (cc : Nat) (w : World) (he : Errs w ad [1, 4]) (ht : Pow10 w) (hp : IRow w a n f) (g : picG V K n f) (hc : CRow w ca cs) (hcc : cs.length ≤ cc) (hnc : n ≤ cap) (hok : crdOk cs) :
    Calls Tryz.prog 7 #[.agg #[.int .i64 V, .int .i64 K, .slice a n cap], .slice ca cs.length cc] w fun e w' => ∃ v, e = .returned (.tuple #[v, .nilIface]) ∧ GB w.heap.size w v (fileL V K f cs) w' := by
  obtain ⟨i0, hi, hz0, hz1, hz2⟩ := info_parts info_byte
  have hlen := hok.1
  have hb0 : ∀ o, Below w.heap.size w (w.alloc o) := fun o => (Below.refl _ _).alloc (Nat.le_refl _) _
  have HV := Lib.hid (fun o => validP_ok ad V K f a n cap (w.alloc o) (he.below (hb0 o)) (hp.below (hb0 o)) g)
  obtain ⟨w1, w2, h1, h2, c4, hcn⟩ := g
  have n2 : n ≤ 65536 := (area_bd (f := f) (W := V) (H := K) ⟨w1, w2, h1, h2, c4, hcn⟩).2
  have hV : 1 ≤ V ∧ V ≤ 256 := by omega
  have hK : 1 ≤ K ∧ K ≤ 256 := by omega
  have HNN : Hid (n = K * V) := Lib.hid (by
    have : (n : Int) = ((V * K : Nat) : Int) := by rw [c4]; push_cast; rfl
    rw [Nat.mul_comm]; omega)
  have HOk := Lib.hid hok
  have HA := Lib.hid (fun j (hj : j < n) => hp.at hj)
  have HCn := Lib.hid hcn
  have HCr := Lib.hid (fun W' (hb : Below w.heap.size w W') => hc.below hb)
  have HT := Lib.hid (fun W' (hb : Below w.heap.size w W') => ht.below hb)
  have HB0 := Lib.hid hb0
  have hl1 : decide ((100 : Int) < (cs.length : Int)) = false := decide_eq_false (by omega)
  clear hp hc hok ht he w1 w2 h1 h2 c4 hcn hb0
  go_enter Tryz.func7, Tryz.ntmps7
  go_wp2_with fail
  refine (HV.out _).mono ?_; rintro e w1 ⟨rfl, hb1⟩
  have q0 : w1.cell? ⟨w.heap.size, 0, none⟩ = some (.int .i64 V) := by rw [hb1.cell (p := ⟨w.heap.size, 0, none⟩) (by simp)]; simp
  have q1 : w1.cell? ⟨w.heap.size, 1, none⟩ = some (.int .i64 K) := by rw [hb1.cell (p := ⟨w.heap.size, 1, none⟩) (by simp)]; simp
  have q2 : w1.cell? ⟨w.heap.size, 2, none⟩ = some (.slice a n cap) := by rw [hb1.cell (p := ⟨w.heap.size, 2, none⟩) (by simp)]; simp
  have hlt1 : w.heap.size < w1.heap.size := cell_lt q0
  have HS : Hid (∀ W', Below w1.heap.size w1 W' → W'.cell? ⟨w.heap.size, 0, none⟩ = some (.int .i64 V) ∧ W'.cell? ⟨w.heap.size, 1, none⟩ = some (.int .i64 K) ∧ W'.cell? ⟨w.heap.size, 2, none⟩ = some (.slice a n cap)) := Lib.hid (fun W' hb => ⟨(hb.cell (p := ⟨w.heap.size, 0, none⟩) hlt1).trans q0, (hb.cell (p := ⟨w.heap.size, 1, none⟩) hlt1).trans q1, (hb.cell (p := ⟨w.heap.size, 2, none⟩) hlt1).trans q2⟩)
  have HB1 := Lib.hid (below_step (HB0.out _) hb1)
  have HF := Lib.hid (fixed_any V K hV.2 hK.2 a n cap w1 (HT.out w1 HB1.out))
  clear hb1 HV HB0 HT
  go_wp2_with fail
  refine HF.out.mono ?_; rintro e w2 ⟨gF, rfl, hGF⟩
  have HGF := Lib.hid hGF
  have HB2 := Lib.hid (below_step HB1.out hGF.2.1)
  have HCF := Lib.hid (fun W' (hb : Below w2.heap.size w2 W') => (HGF.out.below hb).row (fixC_long hV.2 hK.2))
  have HCw := Lib.hid (fun W' (hb : Below w2.heap.size w2 W') => HCr.out W' (below_step HB2.out hb))
  clear hGF HF q0 q1 q2 HCr
  go_wp2
  go_loopw [31] (fun i wr => ∃ k : Nat, k ≤ cs.length ∧ i = .int .i64 k ∧ Hid (Below w2.heap.size w2 wr)) (fun i _ => cs.length - (intOf i).toNat)
  case atStart => exact ⟨0, Nat.zero_le _, rfl, Lib.hid (Below.refl _ _)⟩
  case round =>
    obtain ⟨k, hk, rfl, hB⟩ := hrel
    by_cases hlt : k < cs.length
    · obtain ⟨bc, oc, rfl, hbl, ⟨c1, c2⟩, l1, l2⟩ := (HCw.out wr hB.out).at hlt
      have hs1 : (bs (nmC cs k)).size ≤ 9223372036854775807 := by rw [bs_size]; exact l1
      clear l1 l2
      have HAt : Hid (nmAt cs k) := Lib.hid (HOk.out.2.1 k hlt)
      have HNo1 : Hid (¬ ∃ i, i < (fixC V K).length ∧ nmC (fixC V K) i = nmC cs k) := Lib.hid (fun ⟨i, h1, h2⟩ => HAt.out.2.1 (by
        have := fix_names V K i h1
        rw [h2] at this
        exact this))
      have HNo2 : Hid (¬ ∃ i, i < (cs.take k).length ∧ nmC (cs.take k) i = nmC cs k) := Lib.hid (fun ⟨i, h1, h2⟩ => by
        rw [List.length_take] at h1
        rw [nmC_take (by omega)] at h2
        exact HAt.out.2.2 i (by omega) h2)
      have HN1 : Hid (∀ W' q, Below w2.heap.size w2 W' → W'.cell? ⟨q, 0, none⟩ = some (.string (bs (nmC cs k))) → Calls Tryz.prog 20 #[.slice (some ⟨gF, 0, none⟩) 6 6, .func (.func 18) #[] #[.pointer (some ⟨q, 0, none⟩)]] W' fun e w' => BoolIs (∃ i, i < (fixC V K).length ∧ nmC (fixC V K) i = nmC cs k) e ∧ Below W'.heap.size W' w') := Lib.hid (fun W' q hb hq => containsN_any (fixC V K) (some ⟨gF, 0, none⟩) 6 (nmC cs k) q (by show 6 ≤ 9223372036854775807; decide) W' (HCF.out W' hb) hq)
      have htk : (cs.take k).length = k := by rw [List.length_take]; omega
      have HN2 : Hid (∀ W' q, Below w2.heap.size w2 W' → W'.cell? ⟨q, 0, none⟩ = some (.string (bs (nmC cs k))) → Calls Tryz.prog 20 #[.slice (some ⟨bc, oc, none⟩) k cc, .func (.func 18) #[] #[.pointer (some ⟨q, 0, none⟩)]] W' fun e w' => BoolIs (∃ i, i < (cs.take k).length ∧ nmC (cs.take k) i = nmC cs k) e ∧ Below W'.heap.size W' w') := Lib.hid (fun W' q hb hq => by
        have := containsN_any (cs.take k) (some ⟨bc, oc, none⟩) cc (nmC cs k) q (by omega) W' ((HCw.out W' hb).take k) hq
        have e2 : #[.slice (some ⟨bc, oc, none⟩) (cs.take k).length cc, Value.func (.func 18) #[] #[.pointer (some ⟨q, 0, none⟩)]] = #[.slice (some ⟨bc, oc, none⟩) k cc, Value.func (.func 18) #[] #[.pointer (some ⟨q, 0, none⟩)]] := by rw [htk]
        rw [e2] at this
        exact this)
      have HNm : Hid (∀ W', Calls Tryz.prog 19 #[.string (bs (nmC cs k))] W' fun e w' => BoolIs (nmOk (nmC cs k)) e ∧ W' = w') := Lib.hid (fun W' => by
        have := name_any (bs (nmC cs k)) hs1 W'
        rw [bs_list] at this
        exact this)
      have hE : ((bs (nmC cs k)).toList == [69, 78, 68]) = false := by
        rw [bs_toList, beq_eq_false_iff_ne]
        intro e
        refine HAt.out.2.1 ?_
        show nmC cs k ∈ ownN
        rw [e]
        unfold ownN
        simp
      have HBq0 := Lib.hid (fun o => hB.out.alloc hB.out.size o)
      clear hs1 htk
      generalize bs (nmC cs k) = s at *
      generalize bs (vlC cs k) = t at *
      go_wp2_with fail
      have q0 : (wr.alloc (.cells #[.string s, .string t] 51)).cell? ⟨wr.heap.size, 0, none⟩ = some (.string s) := by simp
      have hlq : wr.heap.size < (wr.alloc (.cells #[.string s, .string t] 51)).heap.size := by simp
      have HBq := Lib.hid (HBq0.out (.cells #[.string s, .string t] 51))
      generalize wr.alloc (.cells #[.string s, .string t] 51) = wq at *
      refine (HNm.out wq).mono ?_; rintro e w3 ⟨hbo, rfl⟩
      obtain rfl := hbo.yes HAt.out.1
      have HC1 := Lib.hid (HN1.out wq _ HBq.out q0)
      clear hbo HNm HBq0 c1 c2
      go_wp2_with fail
      refine HC1.out.mono ?_; rintro e w4 ⟨hbo, hb4⟩
      obtain rfl := hbo.no HNo1.out
      have q4 : w4.cell? ⟨wr.heap.size, 0, none⟩ = some (.string s) := (hb4.cell (p := ⟨wr.heap.size, 0, none⟩) hlq).trans q0
      have HB4 := Lib.hid (HBq.out.trans (hb4.mono HBq.out.size))
      have HC2 := Lib.hid (HN2.out w4 _ HB4.out q4)
      clear hbo HC1 HBq hb4 q0
      go_wp2_with fail
      refine HC2.out.mono ?_; rintro e w5 ⟨hbo, hb5⟩
      obtain rfl := hbo.no HNo2.out
      have HB5 := Lib.hid (HB4.out.trans (hb5.mono HB4.out.size))
      clear hbo HC2 HB4 hb5 q4 HN1 HN2 hE
      go_wp2
      go_roundw
      case rel => exact ⟨k + 1, by omega, by go_num, HB5⟩
      case measure => simp [intOf]; omega
    · obtain rfl : k = cs.length := by omega
      have HGr := Lib.hid (HGF.out.below hB.out)
      have HCv := Lib.hid (containsV_any cs ca cc (by omega) wr (HCw.out wr hB.out))
      have HNo : Hid (¬ ∃ i, i < cs.length ∧ ¬ vlOk (vlC cs i)) := Lib.hid (fun ⟨i, h1, h2⟩ => h2 (HOk.out.2.2 i h1))
      have HCw' := Lib.hid (fun W' (hb : Below wr.heap.size wr W') => HCw.out W' (below_step hB.out hb))
      clear HB2 HGF HCF HCw hB
      go_wp2_with fail
      refine HCv.out.mono ?_; rintro e w3 ⟨hbo, hb3⟩
      obtain rfl := hbo.no HNo.out
      obtain ⟨v4, w4, hr4, G4⟩ := GC_append (HGr.out.below hb3) ca cc 23 (HCw'.out w3 hb3) (by show 6 + cs.length ≤ 1000000; omega)
      obtain ⟨a4, cap4, rfl⟩ := G4.form
      have hl4 : (fixC V K ++ cs).length = 6 + cs.length := by rw [List.length_append]; rfl
      have HRow := Lib.hid (fun W' (hb : Below w4.heap.size w4 W') => (G4.below hb).row (by
        intro c hc
        rcases List.mem_append.1 hc with hc | hc
        · exact fixC_long hV.2 hK.2 c hc
        · have := crdOk_short HOk.out c hc
          have h1 := this.1
          have h2 := this.2
          omega))
      have HB4 := Lib.hid (below_step HB1.out G4.2.1)
      have HS4 := Lib.hid (fun W' (hb : Below w4.heap.size w4 W') => HS.out W' (below_step G4.2.1 hb))
      have HAl := Lib.hid (fun k (hk : k ≤ 6 + cs.length) => show (allR ((fixC V K ++ cs).take k)).length = 80 * k by
        rw [allR_len (fun c hc => by
          rcases List.mem_append.1 (List.mem_of_mem_take hc) with hc | hc
          · exact fixC_short hV.2 hK.2 c hc
          · exact crdOk_short HOk.out c hc), List.length_take, hl4]
        omega)
      have HSc := Lib.hid (fun k (hk : k < 6 + cs.length) => show shortC (nmC (fixC V K ++ cs) k, vlC (fixC V K ++ cs) k) by
        have hm : (fixC V K ++ cs).getD k ([], []) ∈ fixC V K ++ cs := by
          rw [List.getD_eq_getElem?_getD, List.getElem?_eq_getElem (by rw [hl4]; exact hk)]
          exact List.getElem_mem _
        rcases List.mem_append.1 hm with hc | hc
        · exact fixC_short hV.2 hK.2 _ hc
        · exact crdOk_short HOk.out _ hc)
      have HRT := Lib.hid (fun k (hk : k < 6 + cs.length) => allR_take (L := fixC V K ++ cs) (k := k) (by rw [hl4]; exact hk))
      have HHd := Lib.hid (hdL_row hV.2 hK.2 (crdOk_short HOk.out))
      have HHl : Hid ((hdL V K cs).length ≤ 12000) := Lib.hid (by rw [hdL_len hV.2 hK.2 (crdOk_short HOk.out)]; unfold blk; omega)
      have HTk : Hid ((fixC V K ++ cs).take (6 + cs.length) = fixC V K ++ cs) := Lib.hid (by rw [← hl4, List.take_length])
      have G0 : Hid (GB w4.heap.size w4 (.slice none 0 0) [] w4) := Lib.hid (GB.nil (Nat.le_refl _))
      clear hbo G4 HB1 HS HGr HCv HNo HCw' hb3
      obtain ⟨m, hm⟩ : ∃ m, 6 + cs.length = m := ⟨_, rfl⟩
      have hmb : m ≤ 106 := by omega
      have HM := Lib.hid hm
      rw [hm] at hl4 HAl HSc HRT HTk
      rw [hl4] at hr4
      clear hm
      go_wp2_with (at_builtin; refine Lib.wpList_append_run_sl _ rfl _ _ 23 rfl _ _ rfl rfl hr4 ?_)
      clear hr4
      go_loopw [11, 67] (fun v i wr => ∃ k : Nat, k ≤ m ∧ i = .int .i64 k ∧ Hid (GB w4.heap.size w4 v (allR ((fixC V K ++ cs).take k)) wr)) (fun _ i _ => m - (intOf i).toNat)
      case atStart => exact ⟨0, Nat.zero_le _, rfl, G0⟩
      case round =>
        clear G0
        obtain ⟨k, hk, rfl, hG⟩ := hrel
        by_cases hlt2 : k < m
        · have hRw := HRow.out wr hG.out.2.1
          obtain ⟨bR, oR, rfl, _, ⟨c1, c2⟩, _, _⟩ := hRw.at (i := k) (by rw [hl4]; exact hlt2)
          have HRk := Lib.hid (fun W' => row_any _ (HSc.out k hlt2) W')
          unfold aggC at HRk
          simp only at HRk
          have HRt := Lib.hid (HRT.out k hlt2)
          have ha := HAl.out k hk
          have HB0 := Lib.hid (fun o => (Below.refl wr.heap.size wr).alloc (Nat.le_refl _) o)
          obtain ⟨mm, hmm⟩ : ∃ mm, allR ((fixC V K ++ cs).take k) = mm := ⟨_, rfl⟩
          rw [hmm] at ha HRt
          have hale : mm.length ≤ 8480 := by omega
          clear ha
          have hGm := hG.out
          rw [hmm] at hGm
          obtain ⟨aa, capp, rfl⟩ := hGm.form
          have HG := Lib.hid hGm
          clear hmm hGm hG hRw
          have HSk := Lib.hid (HSc.out k hlt2)
          generalize nmC (fixC V K ++ cs) k = s1 at *
          generalize vlC (fixC V K ++ cs) k = s2 at *
          generalize hs1 : bs s1 = s at *
          generalize hs2 : bs s2 = t at *
          go_wp2_with fail
          refine (HRk.out _).mono ?_; rintro e w5 ⟨g5, rfl, HBA, hb5⟩
          have hl8 := rowC_len HSk.out
          obtain ⟨v6, w6, hr6, G6⟩ := GB_append (HG.out.below (below_step (HB0.out _) hb5)) ⟨g5, 0, none⟩ 80 27 HBA.out.news (by omega)
          rw [hl8] at hr6
          have HG6 := Lib.hid G6
          clear G6 hb5 HBA HG HRk HB0 hs1 hs2 c1 c2 HSk hl8
          go_wp2_with (at_builtin; refine Lib.wpList_append_run_sl _ rfl _ _ 27 rfl _ _ rfl rfl hr6 ?_)
          clear hr6
          go_wp2
          go_roundw
          case rel => exact ⟨k + 1, by omega, by go_num, Lib.hid (by rw [HRt.out]; exact HG6.out)⟩
          case measure => simp [intOf]; omega
        · obtain rfl : k = m := by omega
          have hG0 := hG.out
          rw [HTk.out] at hG0
          have ha := HAl.out k (Nat.le_refl _)
          rw [HTk.out] at ha
          generalize hmm : allR (fixC V K ++ cs) = mm at *
          have hale : mm.length ≤ 8480 := by omega
          have HMl := Lib.hid ha
          clear ha hmm
          obtain ⟨aa, capp, rfl⟩ := hG0.form
          have HG := Lib.hid hG0
          have HRp := Lib.hid (fun W' => repeat77 W')
          clear hG0 hG HAl HSc HRT HRow HTk hl4 hlt2
          go_wp2_with fail
          refine (HRp.out _).mono ?_; rintro e w5 ⟨rfl, hb5⟩
          have ht7 : (bs (List.replicate 77 (32 : UInt8))).size = 77 := by rw [bs_size, List.length_replicate]
          have HT7 : Hid ((bs (List.replicate 77 (32 : UInt8))).data.toList = List.replicate 77 32) := Lib.hid (bs_list _)
          have HG5 := Lib.hid (HG.out.below hb5)
          have hBw := Nat.le_trans HG5.out.2.2 HG5.out.2.1.size
          clear HG hb5
          generalize bs (List.replicate 77 (32 : UInt8)) = t7 at *
          obtain ⟨e1, e2⟩ := str_end t7
          have HE1 := Lib.hid e1
          have hc9 : ¬ 9223372036854775807 < 3 + t7.size := by omega
          clear e1
          go_wp2_with (first
            | (at_builtin; refine Go.Lib.wpList_append_own_string _ rfl _ _ 27 9 rfl w4.heap.size 5 i0 Tryz.underlying27 Tryz.underlying9 hi hz0 hz1 hz2 (.slice aa mm.length capp) mm.length (encB mm) rfl HG5.out.1 ((⟨#[69, 78, 68]⟩ : ByteArray) ++ t7) rfl ?c1 ?c2 hBw ?_)
            | fail)
          case c1 => unfold maxLen; omega
          case c2 => omega
          intro v7 w7 hown hgrow _
          rw [encB_str, HE1.out, HT7.out] at hown
          have R7 := HG5.out.stepS (m := [69, 78, 68] ++ List.replicate 77 32) (k := 80) (by rw [List.length_append, List.length_replicate]; rfl) hown hgrow
          have HL7 : Hid ((mm ++ ([69, 78, 68] ++ List.replicate 77 (32 : UInt8))).length = 80 * (6 + cs.length) + 80) := Lib.hid (by rw [List.length_append, List.length_append, List.length_replicate, HMl.out, HM.out]; rfl)
          generalize hm7 : mm ++ ([69, 78, 68] ++ List.replicate 77 (32 : UInt8)) = m7 at *
          obtain ⟨a7, cap7, rfl⟩ := R7.form
          have HG7 := Lib.hid R7
          have hm7l : m7.length ≤ 9000 := by have := HL7.out; omega
          have HFs := Lib.hid (filled_sp w4.heap.size m7 _ w7 HG7.out.start (by omega))
          have hpe : padR m7 (blk m7.length) 32 = hdL V K cs := by rw [HL7.out]; exact HHd.out.symm
          rw [hpe] at HFs
          clear hpe
          clear hown hgrow R7 HG5 HE1 HT7 HMl hm7 hc9 e2 ht7 HHd HRp
          go_wp2_with fail
          refine HFs.out.mono ?_; rintro e w8 ⟨v8, rfl, hG8⟩
          have G8 := Lib.hid (HG7.out.trans hG8)
          clear hG8 HFs HG7 HL7
          obtain ⟨k0, k1, k2⟩ := HS4.out w8 G8.out.2.1
          go_wp2
          have HFL : Hid (fileL V K f cs = padR (hdL V K cs ++ datD V K f K) (blk (hdL V K cs ++ datD V K f K).length) 0) := Lib.hid rfl
          generalize hdL V K cs = hd at *
          clear k0 k1 k2
          go_loopw [11, 14] (fun v y wr => ∃ k : Nat, k ≤ K ∧ y = .int .i64 ((K : Int) - 1 - (k : Int)) ∧ Hid (GB w4.heap.size w4 v (hd ++ datD V K f k) wr)) (fun _ y _ => (intOf y + 1).toNat)
          case atStart => exact ⟨0, Nat.zero_le _, by simp, Lib.hid (by rw [show datD V K f 0 = [] from rfl, List.append_nil]; exact G8.out)⟩
          case round =>
            clear G8
            obtain ⟨k, hk, rfl, hG⟩ := hrel
            obtain ⟨k0, k1, k2⟩ := HS4.out wr hG.out.2.1
            by_cases hkt : k < K
            · have dy : decide ((0 : Int) ≤ (K : Int) - 1 - (k : Int)) = true := by simp; omega
              obtain ⟨Y, hY⟩ : ∃ Y : Nat, K - 1 - k = Y := ⟨_, rfl⟩
              have hYi : (K : Int) - 1 - (k : Int) = (Y : Int) := by omega
              have HYV := Lib.hid (show (Y + 1) * V ≤ K * V from Nat.mul_le_mul_right V (by omega))
              have hJ : (Y : Int) * (V : Int) = ((Y * V : Nat) : Int) := by push_cast; rfl
              have hJ1 : ((Y : Int) + 1) * (V : Int) = ((Y * V + V : Nat) : Int) := by rw [Int.add_mul, Int.one_mul]; push_cast; rfl
              have HDk : Hid (datD V K f (k + 1) = datD V K f k ++ rowD V f Y V) := Lib.hid (by rw [datD, hY])
              have HRs := Lib.hid (fun j => show rowD V f Y (j + 1) = rowD V f Y j ++ b2 (f (Y * V + j)) from rfl)
              have HJn : Hid (Y * V + V ≤ n) := Lib.hid (by have := HYV.out; rw [Nat.add_mul, Nat.one_mul, ← HNN.out] at this; exact this)
              have HLn := Lib.hid (fun j (hj : j ≤ V) => show (hd ++ datD V K f k ++ rowD V f Y j).length ≤ 300000 by
                have h1 := Nat.mul_le_mul_right V hk
                rw [← HNN.out] at h1
                rw [List.length_append, List.length_append, datD_len, rowD_len]
                have := HHl.out
                omega)
              have hY256 : Y ≤ 256 := by omega
              clear HYV hY
              generalize Y * V = J at *
              have hJn := HJn.out
              obtain ⟨ba, oa, rfl, _, _⟩ := HA.out 0 (by omega)
              obtain ⟨JV, hJV⟩ : ∃ JV, J + V = JV := ⟨_, rfl⟩
              rw [hJV] at hJ1
              have hJ3 : JV ≤ cap := by omega
              have hJ4 : J ≤ JV := by omega
              have hJ5 : JV - J = V := by omega
              have hJ6 : ¬ cap = J := by omega
              have j1 : (0 : Int) ≤ (J : Int) := by omega
              have j2 : (J : Int) ≤ (JV : Int) := by omega
              have j3 : (JV : Int) ≤ (cap : Int) := by omega
              have ew0 : IntKind.i64.wrap (J : Int) = (J : Int) := IntWalk.i64_in _ (by omega)
              have ew1 : IntKind.i64.wrap (JV : Int) = (JV : Int) := IntWalk.i64_in _ (by omega)
              have ew2 : IntKind.i64.wrap ((Y : Int) + 1) = (Y : Int) + 1 := IntWalk.i64_in _ (by omega)
              clear hJV
              go_wp2
              clear k0 k1 k2 hJ hJ1 j1 j2 j3 ew0 ew1 ew2 hYi
              go_loopw [11, 101] (fun v x wr => ∃ j : Nat, j ≤ V ∧ x = .int .i64 j ∧ Hid (GB w4.heap.size w4 v (hd ++ datD V K f k ++ rowD V f Y j) wr)) (fun _ x _ => V - (intOf x).toNat)
              case atStart => exact ⟨0, Nat.zero_le _, rfl, Lib.hid (by rw [show rowD V f Y 0 = [] from rfl, List.append_nil]; exact hG.out)⟩
              case round =>
                clear hG
                obtain ⟨j, hj, rfl, hG⟩ := hrel
                by_cases hjt : j < V
                · have hkn : J + j < n := by omega
                  obtain ⟨ba', oa', e1, hbal, ck⟩ := HA.out (J + j) hkn
                  obtain ⟨rfl, rfl⟩ : ba = ba' ∧ oa = oa' := by cases e1; exact ⟨rfl, rfl⟩
                  have ckr : wr.cell? ⟨ba, oa + J + j, none⟩ = some (.int .i64 (f (J + j))) := by rw [Nat.add_assoc, ((HB4.out.trans (hG.out.2.1.mono HB4.out.size)).cell (p := ⟨ba, oa + (J + j), none⟩) hbal)]; exact ck
                  have hfk := HCn.out (J + j) hkn
                  have HR := Lib.hid (HRs.out j)
                  have hml := HLn.out j hj
                  clear ck e1
                  generalize f (J + j) = fx at *
                  obtain ⟨pn, hpn⟩ : ∃ pn : Nat, (fx + 32768) % 65536 = (pn : Int) := ⟨((fx + 32768) % 65536).toNat, by omega⟩
                  have HE := Lib.hid (enc_b2 fx hpn)
                  have hp6 : pn < 65536 := by omega
                  obtain ⟨mm2, hmm2⟩ : ∃ m, hd ++ datD V K f k ++ rowD V f Y j = m := ⟨_, rfl⟩
                  have HMM : Hid (hd ++ datD V K f k ++ rowD V f Y (j + 1) = mm2 ++ b2 fx) := Lib.hid (by rw [HR.out, ← List.append_assoc, hmm2])
                  have hGm := hG.out
                  rw [hmm2] at hGm hml
                  obtain ⟨aa2, capp2, rfl⟩ := hGm.form
                  have HG := Lib.hid hGm
                  clear hmm2 hGm hG HR
                  have ewf : IntKind.i64.wrap (fx - 32768) = fx - 32768 := IntWalk.i64_in _ (by omega)
                  have e16 : IntKind.i16.wrap (fx - 32768) = fx - 32768 := wrap_i16 (by omega) (by omega)
                  have eu16 : IntKind.u16.wrap (fx - 32768) = (pn : Int) := by rw [wrap_u16]; omega
                  have hos := Lib.hid (fun o => World.ownsRow.alloc HG.out.1 o)
                  have hsz := HG.out.2.1.size
                  obtain ⟨ph, hph⟩ : ∃ ph : Nat, pn / 256 = ph := ⟨_, rfl⟩
                  obtain ⟨pl, hpl⟩ : ∃ pl : Nat, pn % 256 = pl := ⟨_, rfl⟩
                  have e3 : (pn : Int) / 256 = (ph : Int) := by omega
                  have e4 : (pn : Int) % 256 = (pl : Int) := by omega
                  have bb1 : ph < 256 := by omega
                  have bb2 : pl < 256 := by omega
                  rw [hph, hpl] at HE
                  clear hph hpl hpn
                  go_wp2_with (first
                    | (at_builtin; refine wpList_append_own_at _ rfl _ _ 27 rfl w4.heap.size 5 i0 (.int .u8 0) 1 1 Tryz.underlying27 hi hz0 hz1 hz2 rfl (by decide) (.slice aa2 mm2.length capp2) mm2.length (encB mm2) rfl (hos.out _) ⟨wr.heap.size, 0, none⟩ 2 2 [.int .u8 (ph : Int), .int .u8 (pl : Int)] rfl rfl (newsB _ _ _) (by rw [HE.out]; exact encB_cells _) ?c3 ?c4 ?c5 ?_)
                    | fail)
                  case c3 => unfold maxLen; omega
                  case c4 => omega
                  case c5 => simp; omega
                  intro v6 w6 hown hgrow _ _
                  rw [HE.out] at hown
                  have R6 := Lib.hid (HG.out.step (m := b2 fx) (b2_len fx) hown hgrow)
                  clear hown hgrow hos HG ckr ewf e16 eu16 e3 e4
                  go_wp2
                  go_roundw
                  case rel => exact ⟨j + 1, by omega, by go_num, Lib.hid (by rw [HMM.out]; exact R6.out)⟩
                  case measure => simp [intOf]; omega
                · obtain rfl : j = V := by omega
                  go_wp2
                  go_roundw
                  case rel => exact ⟨k + 1, by omega, by go_num, Lib.hid (by rw [HDk.out, ← List.append_assoc]; exact hG.out)⟩
                  case measure => simp [intOf]; omega
            · obtain rfl : k = K := by omega
              obtain ⟨mm3, hmm3⟩ : ∃ m, hd ++ datD V k f k = m := ⟨_, rfl⟩
              have hml : mm3.length ≤ 300000 := by
                rw [← hmm3, List.length_append, datD_len, ← HNN.out]
                have := HHl.out
                omega
              have hGm := hG.out
              rw [hmm3] at hGm HFL
              obtain ⟨aa3, capp3, rfl⟩ := hGm.form
              have HG := Lib.hid hGm
              have HPd := Lib.hid (filled_no w4.heap.size mm3 (.slice aa3 mm3.length capp3) wr hGm.start (by omega))
              rw [← HFL.out] at HPd
              clear hmm3 hGm hG k0 k1 k2
              have dy : decide ((0 : Int) ≤ (k : Int) - 1 - (k : Int)) = false := by simp; omega
              go_wp2_with fail
              refine HPd.out.mono ?_; rintro e w5 ⟨v5, rfl, hG5⟩
              have G5 := Lib.hid (HG.out.trans hG5)
              clear hG5 HPd HG
              go_wp2
              refine bodyPost_ret (v := .tuple #[v5, .nilIface]) ?_ rfl ?_
              · simp [results, Tryz.results7, go_sem]
              · exact ⟨v5, rfl, G5.out.wide HB4.out HB4.out.size⟩
end Go.Proofs.YtjcmpkkflboaoaaGreatDoor
