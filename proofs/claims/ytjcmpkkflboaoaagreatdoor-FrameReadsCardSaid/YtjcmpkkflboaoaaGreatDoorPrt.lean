/- frame.Parts. -/
import Derived.Test.YtjcmpkkflboaoaaGreatDoorRead
import Derived.Test.YtjcmpkkflboaoaaGreatDoorRdB
import Derived.Test.YtjcmpkkflboaoaaGreatDoorApp
namespace Go.Proofs.YtjcmpkkflboaoaaGreatDoor
open Go.RowKit

/-- append as one step of a region that draws its order, its run known by an equation. -/
theorem step_append_eq {P : Program} {ops : Array Oper} {o : Oper} {a : Act} {w : World} {K : Act → World → Prop} {Q : Exit → Act → World → Prop} {E : Prop} (hgd : o.guard = none) (d s : Operand) (t : TypeId)
    (ho : o.op = .call { callee := .builtin .append, args := #[d, s], argTypes := #[t, t] }) (v u : Value) (hd : a.eval d = v) (hs : a.eval s = u) {v' : Value} {w' : World}
    (hr : (Builtin.append_ #[t, t] o.type #[v, u]).run P w = .ok v' w') (h : K (a.put o.dst v') w') :
    if Region.wanted o (yielded ops a.tmps) = true then Oper.wp P o a w K Q else E := by
  have hw : Region.wanted o (yielded ops a.tmps) = true := by simp [Region.wanted, hgd]
  rw [if_pos hw]
  exact Lib.wp_append_run_sl w d s t ho v u hd hs hr h
theorem GB_appendS {B : Nat} {w wr : World} {v : Value} {L m : List UInt8} (h : GB B w v L wr) (a : Option Addr) (cc : Nat) (ty : TypeId) (hc : BSl wr a m) (hL : L.length + m.length ≤ 1000000) :
    ∃ v' w', (Builtin.append_ #[27, 27] ty #[v, .slice a m.length cc]).run Tryz.prog wr = .ok v' w' ∧ GB B w v' (L ++ m) w' := by
  cases a with
  | none =>
    rcases hc with rfl | ⟨b, o, e, _⟩
    · exact ⟨v, wr, GB_append_none h cc ty, by rw [List.append_nil]; exact h⟩
    · cases e
  | some a =>
    refine GB_append h a cc ty ?_ hL
    rcases hc with rfl | ⟨b, o, e, hb⟩
    · intro j u hu
      simp [encB] at hu
    · cases e
      intro j u hu
      unfold encB at hu
      rw [List.getElem?_map] at hu
      obtain ⟨x, hx, rfl⟩ := Option.map_eq_some_iff.1 hu
      rw [add_litB]
      exact hb j x hx
/-- The two pieces of a slice. -/
theorem slice_two (a : Option Addr) (len cp n : Nat) (hn : n ≤ len) (hl : len ≤ cp) : ∃ a1 a2 : Option Addr,
    (∀ W, (Instr.slice 27 (.slice a len cp) none (some (.int .i64 (n : Int))) none).run Tryz.prog W = .ok (.slice a1 n cp) W) ∧
    (∀ W, (Instr.slice 27 (.slice a len cp) (some (.int .i64 (n : Int))) none none).run Tryz.prog W = .ok (.slice a2 (len - n) (cp - n)) W) ∧
    ∀ W l, BSl W a l → l.length = len → BSl W a1 (l.take n) ∧ BSl W a2 (l.drop n) := by
  have ht := Tryz.underlying27
  have ht' : Tryz.prog.underlying 27 = some (.slice (Tryz.prog.elem 27)) := by simp [Program.elem, ht]
  have he : Tryz.prog.elem 27 = 5 := by simp [Program.elem, ht]
  have hz : ∀ W, (sizeOf 5).run Tryz.prog W = .ok 1 W := fun W => by kernel_rfl
  refine ⟨if cp = 0 then a else a.map (·.add 0), if cp = n then a else a.map (·.add n), fun W => ?_, fun W => ?_, fun W l hb hl2 => ?_⟩
  · rw [run_slice_h W 27 _ _ _ ht' .i64 (n : Int) (by omega) (by omega), he, hz]
    simp [Result.andThen, sliced]
  · rw [run_slice_l W 27 _ _ _ ht' .i64 (n : Int) (by omega) (by omega), he, hz]
    simp [Result.andThen, sliced]
  · rcases hb with rfl | ⟨b, o, rfl, hb⟩
    · exact ⟨Or.inl (List.take_nil ..), Or.inl (List.drop_nil ..)⟩
    · refine ⟨?_, ?_⟩
      · by_cases c : cp = 0
        · exact Or.inl (by rw [show n = 0 by omega]; rfl)
        · rw [if_neg c]
          refine Or.inr ⟨b, o, by simp [add_litB], fun i x hx => ?_⟩
          have hi : i < n := by
            have := (List.getElem?_eq_some_iff.1 hx).1
            rw [List.length_take] at this
            omega
          rw [List.getElem?_take_of_lt hi] at hx
          exact hb i x hx
      · by_cases c : cp = n
        · exact Or.inl (List.drop_eq_nil_of_le (by omega))
        · rw [if_neg c]
          refine Or.inr ⟨b, o + n, by simp [add_litB], fun i x hx => ?_⟩
          rw [List.getElem?_drop] at hx
          rw [Nat.add_assoc]
          exact hb (n + i) x hx
theorem CRow.setA {w : World} {a : Addr} {cs : List Crd} (h : CRow w (some a) cs) {g k : Nat} {v : Value} (hne : ¬ a.block = g) : CRow (w.setCell ⟨g, k, none⟩ v) (some a) cs := by
  rcases h with h | ⟨b, o, e, h⟩
  · exact Or.inl h
  · cases e
    exact CRow.set (Or.inr ⟨b, o, rfl, h⟩) hne
theorem GB.capOf {B : Nat} {w wr : World} {a : Option Addr} {n cap : Nat} {l : List UInt8} (h : GB B w (.slice a n cap) l wr) : l.length ≤ cap := by
  rcases h.1.2 with ⟨e, h0⟩ | ⟨g, cap', cur, e, _, _, hh, _⟩
  · rw [h0]; exact Nat.zero_le _
  · simp only [Value.slice.injEq] at e
    obtain ⟨_, _, rfl⟩ := e
    exact hh
/-- What Parts answers, whatever the pieces. -/
def PtPost (b : List UInt8) (w0 : World) (ad : Nat → Addr) (e : Ending) (w' : World) : Prop :=
  if 400000 < b.length then (e = .returned (.tuple #[.agg #[.int .i64 0, .int .i64 0, .slice none 0 0], .slice none 0 0, errV ad 1]) ∧ Below w0.heap.size w0 w') else RdPost b w0 ad e w'
theorem RdPost.seen {b : List UInt8} {w0 w1 w' : World} {ad : Nat → Addr} {e : Ending} (h : RdPost b w1 ad e w') (hb : Below w0.heap.size w0 w1) : RdPost b w0 ad e w' := by
  obtain ⟨h1, h2⟩ := h
  have hs := hb.size
  refine ⟨?_, below_step hb h2⟩
  rcases h1 with ⟨V, K, f, cs, g, np, capp, a6, cc, x1, x2, x3, x4, ⟨x5, x6⟩, x7, x8⟩ | h1
  · exact Or.inl ⟨V, K, f, cs, g, np, capp, a6, cc, x1, x2, x3, x4, ⟨x5, by omega⟩, x7, by omega⟩
  · exact Or.inr h1
set_option maxRecDepth 20000 in
set_option maxHeartbeats 2000000 in
theorem parts_any (ad : Nat → Addr) (b : List UInt8) (a : Option Addr) (cap : Nat) (pf : Nat → Int) (pa : Option Addr) (pn pc : Nat) (w : World) (he : Errs w ad [0, 1, 4, 7, 9]) (ht : Pow10 w) (hn : Nums w) (h : BSl w a b) (hc : b.length ≤ cap) (hl : b.length ≤ 400010) (hp : IRow w pa pn pf) (hpn : pn ≤ 1000000) (hpi : ∀ j, j < pn → In64 (pf j)) :
    Calls Tryz.prog 13 #[.slice a b.length cap, .slice pa pn pc] w fun e w' => PtPost b w ad e w' := by
  have hb0 := (Below.refl w.heap.size w).alloc (Nat.le_refl _) (.cells #[.int .i64 0, .int .i64 0, .slice none 0 0] 33)
  have HB0 := Lib.hid hb0
  have HE := Lib.hid (fun W' (hb : Below w.heap.size w W') => he.below hb)
  have HT := Lib.hid (fun W' (hb : Below w.heap.size w W') => ht.below hb)
  have HN := Lib.hid (fun W' (hb : Below w.heap.size w W') => hn.below hb)
  have HS := Lib.hid (fun W' (hb : Below w.heap.size w W') => h.below hb)
  have HP := Lib.hid (fun j (hj : j < pn) W' (hb : Below w.heap.size w W') => (hp.below hb).at hj)
  have HPi := Lib.hid hpi
  clear he ht hn h hp hpi hb0
  obtain ⟨L, hL⟩ : ∃ L, b.length = L := ⟨_, rfl⟩
  rw [hL] at hc hl ⊢
  have HL := Lib.hid hL
  clear hL
  go_enter Tryz.func13, Tryz.ntmps13
  go_wp2
  have c0 : (w.alloc (.cells #[.int .i64 0, .int .i64 0, .slice none 0 0] 33)).cell? ⟨w.heap.size, 0, none⟩ = some (.int .i64 0) := by simp
  have c1 : (w.alloc (.cells #[.int .i64 0, .int .i64 0, .slice none 0 0] 33)).cell? ⟨w.heap.size, 1, none⟩ = some (.int .i64 0) := by simp
  have c2 : (w.alloc (.cells #[.int .i64 0, .int .i64 0, .slice none 0 0] 33)).cell? ⟨w.heap.size, 2, none⟩ = some (.slice none 0 0) := by simp
  have f0 : ∀ k, (w.alloc (.cells #[.int .i64 0, .int .i64 0, .slice none 0 0] 33)).frozen? ⟨w.heap.size, k, none⟩ = false := by intro k; simp
  have hl1 : w.heap.size < (w.alloc (.cells #[.int .i64 0, .int .i64 0, .slice none 0 0] 33)).heap.size := by simp
  generalize hW1 : w.alloc (.cells #[.int .i64 0, .int .i64 0, .slice none 0 0] 33) = W1 at *
  have HR0 : Hid (∀ W', Below W1.heap.size W1 W' → (W'.cell? ⟨w.heap.size, 0, none⟩ = some (.int .i64 0) ∧ W'.cell? ⟨w.heap.size, 1, none⟩ = some (.int .i64 0) ∧ W'.cell? ⟨w.heap.size, 2, none⟩ = some (.slice none 0 0)) ∧ (W'.frozen? ⟨w.heap.size, 0, none⟩ = false ∧ W'.frozen? ⟨w.heap.size, 1, none⟩ = false ∧ W'.frozen? ⟨w.heap.size, 2, none⟩ = false)) := Lib.hid (fun W' hb => ⟨⟨(hb.cell (p := ⟨w.heap.size, 0, none⟩) hl1).trans c0, (hb.cell (p := ⟨w.heap.size, 1, none⟩) hl1).trans c1, (hb.cell (p := ⟨w.heap.size, 2, none⟩) hl1).trans c2⟩, (hb.frozen (p := ⟨w.heap.size, 0, none⟩) hl1).trans (f0 0), (hb.frozen (p := ⟨w.heap.size, 1, none⟩) hl1).trans (f0 1), (hb.frozen (p := ⟨w.heap.size, 2, none⟩) hl1).trans (f0 2)⟩)
  clear c0 c1 c2 f0 hW1
  have G0 : Hid (GB W1.heap.size W1 (.slice none 0 0) [] W1) := Lib.hid (GB.nil (Nat.le_refl _))
  go_loopw [0, 7, 12] (fun z v i wr => ∃ (k c cp : Nat) (a' : Option Addr), k ≤ pn ∧ i = .int .i64 k ∧ c ≤ L ∧ z = .slice a' (L - c) cp ∧ L - c ≤ cp ∧ Hid (GB W1.heap.size W1 v (b.take c) wr) ∧ Hid (∀ W', Below w.heap.size w W' → BSl W' a' (b.drop c))) (fun _ _ i _ => pn - (intOf i).toNat)
  case atStart => exact ⟨0, 0, cap, a, Nat.zero_le _, rfl, Nat.zero_le _, rfl, by omega, Lib.hid (by rw [List.take_zero]; exact G0.out), Lib.hid (by rw [List.drop_zero]; exact HS.out)⟩
  case round =>
    clear G0
    obtain ⟨k, c, cp, a', hk, rfl, hcL, rfl, hcp, hG, HB⟩ := hrel
    by_cases hlt : k < pn
    · have HBw := Lib.hid (below_step HB0.out hG.out.2.1)
      obtain ⟨bp, op, rfl, _, cpk⟩ := HP.out k hlt wr HBw.out
      have hpk := HPi.out k hlt
      unfold In64 at hpk
      generalize pf k = pk at *
      obtain ⟨m, hm⟩ : ∃ m, L - c = m := ⟨_, rfl⟩
      have HM := Lib.hid hm
      -- the piece that is taken
      obtain ⟨n, hn1, hn2⟩ : ∃ n : Nat, n ≤ m ∧ (((pk < 0 ∨ (m : Int) < pk) ∧ n = m) ∨ (0 ≤ pk ∧ pk ≤ (m : Int) ∧ pk = (n : Int))) := by
        by_cases g : pk < 0 ∨ (m : Int) < pk
        · exact ⟨m, Nat.le_refl _, Or.inl ⟨g, rfl⟩⟩
        · exact ⟨pk.toNat, by omega, Or.inr ⟨by omega, by omega, by omega⟩⟩
      rw [hm] at hcp ⊢
      obtain ⟨a1, a2, hs1, hs2, hbs⟩ := slice_two a' m cp n hn1 hcp
      have hdl : (b.drop c).length = m := by rw [List.length_drop, HL.out]; exact hm
      have hbs1 := hbs wr.drew (b.drop c) (HB.out wr.drew (HBw.out.drew)) hdl
      have htl : ((b.drop c).take n).length = n := by rw [List.length_take, hdl]; omega
      obtain ⟨aa, capp, rfl⟩ := hG.out.form
      have htc : (b.take c).length = c := by rw [List.length_take, HL.out]; omega
      obtain ⟨v6, w6, hr6, G6⟩ := GB_appendS (hG.out.below (Below.refl wr.heap.size wr).drew) a1 cp 27 hbs1.1 (by rw [htc, htl]; omega)
      rw [htl] at hr6
      have HG6 : Hid (GB W1.heap.size W1 v6 (b.take (c + n)) w6) := Lib.hid (by rw [List.take_add]; exact G6)
      have HB6 : Hid (∀ W', Below w.heap.size w W' → BSl W' a2 (b.drop (c + n))) := Lib.hid (fun W' hb => by
        have := (hbs W' (b.drop c) (HB.out W' hb) hdl).2
        rw [List.drop_drop] at this
        exact this)
      have hcn : L - (c + n) = m - n := by omega
      have HCN := Lib.hid hcn
      have hcp2 : m - n ≤ cp - n := by omega
      rw [htc] at hr6
      rw [htc]
      clear G6 hbs1 hbs hdl htl htc hG HB hcn hm
      have key : True := trivial
      rcases hn2 with ⟨g | g, rfl⟩ | ⟨g1, g2, rfl⟩
      · have d1 : decide (pk < 0) = true := decide_eq_true g
        go_wp2
        go_region_law (refine step_append_eq (by rfl) (.tmp 26) (.tmp 29) 27 (by rfl) (.slice aa c capp) (.slice a1 n cp) (by simp [Act.eval, Act.put]) (by simp [Act.eval, Act.put]) hr6 ?_)
        all_goals
          clear hr6 hs1 hs2
          go_simp
          go_wp2
          go_roundw
          case rel => exact ⟨k + 1, c + n, cp - n, a2, by omega, by go_num, by have := HM.out; omega, (by first | rw [HCN.out, Nat.sub_self] | rw [HCN.out]), by rw [HCN.out]; omega, HG6, HB6⟩
          case measure => simp [intOf]; omega
      · have d1 : decide (pk < 0) = false := decide_eq_false (by omega)
        have d2 : decide ((n : Int) < pk) = true := decide_eq_true g
        go_wp2
        go_region_law (refine step_append_eq (by rfl) (.tmp 26) (.tmp 29) 27 (by rfl) (.slice aa c capp) (.slice a1 n cp) (by simp [Act.eval, Act.put]) (by simp [Act.eval, Act.put]) hr6 ?_)
        all_goals
          clear hr6 hs1 hs2
          go_simp
          go_wp2
          go_roundw
          case rel => exact ⟨k + 1, c + n, cp - n, a2, by omega, by go_num, by have := HM.out; omega, (by first | rw [HCN.out, Nat.sub_self] | rw [HCN.out]), by rw [HCN.out]; omega, HG6, HB6⟩
          case measure => simp [intOf]; omega
      · have d1 : decide ((n : Int) < 0) = false := decide_eq_false (by omega)
        have d2 : decide ((m : Int) < (n : Int)) = false := decide_eq_false (by omega)
        go_wp2
        go_region_law (refine step_append_eq (by rfl) (.tmp 26) (.tmp 29) 27 (by rfl) (.slice aa c capp) (.slice a1 n cp) (by simp [Act.eval, Act.put]) (by simp [Act.eval, Act.put]) hr6 ?_)
        all_goals
          clear hr6 hs1 hs2
          go_simp
          go_wp2
          go_roundw
          case rel => exact ⟨k + 1, c + n, cp - n, a2, by omega, by go_num, by have := HM.out; omega, (by first | rw [HCN.out, Nat.sub_self] | rw [HCN.out]), by rw [HCN.out]; omega, HG6, HB6⟩
          case measure => simp [intOf]; omega
    · obtain rfl : k = pn := by omega
      have HBw := Lib.hid (below_step HB0.out hG.out.2.1)
      have hdl : (b.drop c).length = L - c := by rw [List.length_drop, HL.out]
      have htc : (b.take c).length = c := by rw [List.length_take, HL.out]; omega
      obtain ⟨aa, capp, rfl⟩ := hG.out.form
      obtain ⟨v7, w7, hr7, G7⟩ := GB_appendS hG.out a' cp 27 (HB.out wr HBw.out) (by rw [htc, hdl]; omega)
      rw [hdl] at hr7
      rw [List.take_append_drop] at G7
      obtain ⟨a7, cap7, rfl⟩ := G7.form
      rw [HL.out] at hr7
      have hcap7 := G7.capOf
      have HB7 := Lib.hid (below_step HB0.out G7.2.1)
      have HBS7 := Lib.hid G7.bsl
      have HR7 := Lib.hid (fun W' (hb : Below w7.heap.size w7 W') => HR0.out W' (below_step G7.2.1 hb))
      have hl7 : w.heap.size < w7.heap.size := by have := G7.2.1.size; omega
      rw [htc] at hr7
      rw [htc]
      clear hdl htc hG HB G7 HR0
      go_wp2_with (at_builtin; refine Lib.wpList_append_run_sl _ rfl _ _ 27 rfl _ _ rfl rfl hr7 ?_)
      clear hr7
      by_cases hL4 : L ≤ 400000
      · have HRd := Lib.hid (read_any ad b a7 cap7 w7 (HE.out w7 HB7.out) (HT.out w7 HB7.out) (HN.out w7 HB7.out) HBS7.out (by rw [HL.out] at hcap7 ⊢; exact hcap7) (by rw [HL.out]; exact hL4))
        rw [HL.out] at HRd
        have HPt : Hid (∀ e W', RdPost b w ad e W' → PtPost b w ad e W') := Lib.hid (fun e W' h => by
          unfold PtPost
          rw [if_neg (by rw [HL.out]; omega)]
          exact h)
        refine HRd.out.mono ?_; rintro e w8 ⟨h1, hb8⟩
        obtain ⟨⟨c0, c1, c2⟩, f0, f1, f2⟩ := HR7.out w8 hb8
        have HB8 := Lib.hid (below_step HB7.out hb8)
        rcases h1 with ⟨V, K, f, cs, g, np, capp', a6, cc, x1, x2, rfl, x4, ⟨x5, x6⟩, x7, x8⟩ | ⟨hno, rfl⟩
        · have hgw : ¬ g = w.heap.size := by omega
          have haw : ¬ a6.block = w.heap.size := by omega
          have HX : Hid (∀ W', IRow W' (some ⟨g, 0, none⟩) np f → CRow W' (some a6) cs → Below w.heap.size w W' → RdPost b w ad (.returned (.tuple #[.agg #[.int .i64 (V : Int), .int .i64 (K : Int), .slice (some ⟨g, 0, none⟩) np capp'], .slice (some a6) cs.length cc, .nilIface])) W') := Lib.hid (fun W' h1 h2 h3 => ⟨Or.inl ⟨V, K, f, cs, g, np, capp', a6, cc, x1, x2, rfl, x4, ⟨h1, by omega⟩, h2, by omega⟩, h3⟩)
          have HIf := Lib.hid (((x5.setG (k := 0) (v := .int .i64 (V : Int)) hgw).setG (k := 1) (v := .int .i64 (K : Int)) hgw).setG (k := 2) (v := .slice (some ⟨g, 0, none⟩) np capp') hgw)
          have HCf := Lib.hid (((x7.setA (k := 0) (v := .int .i64 (V : Int)) haw).setA (k := 1) (v := .int .i64 (K : Int)) haw).setA (k := 2) (v := .slice (some ⟨g, 0, none⟩) np capp') haw)
          have HBf := Lib.hid (((HB8.out.setCell (p := ⟨w.heap.size, 0, none⟩) (Nat.le_refl _) (.int .i64 (V : Int))).setCell (p := ⟨w.heap.size, 1, none⟩) (Nat.le_refl _) (.int .i64 (K : Int))).setCell (p := ⟨w.heap.size, 2, none⟩) (Nat.le_refl _) (.slice (some ⟨g, 0, none⟩) np capp'))
          clear x1 x2 x5 x7 HRd hb8 HE HT HN HS HR7 HBS7 x4
          generalize cs.length = ncs at *
          go_wp2
          refine bodyPost_ret (v := .tuple #[.agg #[.int .i64 (V : Int), .int .i64 (K : Int), .slice (some ⟨g, 0, none⟩) np capp'], .slice (some a6) ncs cc, .nilIface]) ?_ rfl ?_
          · simp [results, Tryz.results13, go_sem, c0, c1, c2]
          · exact HPt.out _ _ (HX.out _ HIf.out HCf.out HBf.out)
        · have HX := Lib.hid (fun W' (h : Below w.heap.size w W') => HPt.out _ W' (RdPost.no (ad := ad) hno h))
          have HBf := Lib.hid (((HB8.out.setCell (p := ⟨w.heap.size, 0, none⟩) (Nat.le_refl _) (.int .i64 0)).setCell (p := ⟨w.heap.size, 1, none⟩) (Nat.le_refl _) (.int .i64 0)).setCell (p := ⟨w.heap.size, 2, none⟩) (Nat.le_refl _) (.slice none 0 0))
          clear hno HRd hb8 HE HT HN HS HR7 HBS7 HPt
          generalize errV ad 7 = ev7 at *
          go_wp2
          refine bodyPost_ret (v := .tuple #[.agg #[.int .i64 0, .int .i64 0, .slice none 0 0], .slice none 0 0, ev7]) ?_ rfl ?_
          · simp [results, Tryz.results13, go_sem, c0, c1, c2]
          · exact HX.out _ HBf.out
      · have HRd := Lib.hid (read_big ad a7 L cap7 w7 (fun i hi => (HE.out w7 HB7.out) i (by simp at hi ⊢; omega)) (by omega) (by omega))
        have HPt : Hid (∀ W', Below w.heap.size w W' → PtPost b w ad (.returned (.tuple #[.agg #[.int .i64 0, .int .i64 0, .slice none 0 0], .slice none 0 0, errV ad 1])) W') := Lib.hid (fun W' h => by
          unfold PtPost
          rw [if_pos (by rw [HL.out]; omega)]
          exact ⟨rfl, h⟩)
        refine HRd.out.mono ?_; rintro e w8 ⟨rfl, hb8⟩
        obtain ⟨⟨c0, c1, c2⟩, f0, f1, f2⟩ := HR7.out w8 hb8
        have HB8 := Lib.hid (below_step HB7.out hb8)
        have HBf := Lib.hid (((HB8.out.setCell (p := ⟨w.heap.size, 0, none⟩) (Nat.le_refl _) (.int .i64 0)).setCell (p := ⟨w.heap.size, 1, none⟩) (Nat.le_refl _) (.int .i64 0)).setCell (p := ⟨w.heap.size, 2, none⟩) (Nat.le_refl _) (.slice none 0 0))
        clear HRd hb8 HE HT HN HS HR7 HBS7
        generalize errV ad 1 = ev1 at *
        go_wp2
        refine bodyPost_ret (v := .tuple #[.agg #[.int .i64 0, .int .i64 0, .slice none 0 0], .slice none 0 0, ev1]) ?_ rfl ?_
        · simp [results, Tryz.results13, go_sem, c0, c1, c2]
        · exact HPt.out _ HBf.out
end Go.Proofs.YtjcmpkkflboaoaaGreatDoor
