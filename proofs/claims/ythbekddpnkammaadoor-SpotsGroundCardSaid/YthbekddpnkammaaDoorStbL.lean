/- The library's insertion sort of spots, at this program. -/
import Derived.Test.YthbekddpnkammaaDoorStbP
import Derived.Test.YthbekddpnkammaaDoorTab
import Derived.Shelf.SlSortCmp.KitK
import Derived.Deep.LoopGhost
namespace Go.Proofs.YthbekddpnkammaaDoor
open Go.Shelf Go.RowKit Go.Lib Go.Sort

/-- What the walks of the sort want of the program. -/
structure SrtL (P : Program) (k : Nat) : Prop where
  mixed : P.follows .mixedOrders = true
  fIns : P.funcs[43]? = some Tryd.f43
  fSwr : P.funcs[61]? = some Tryd.f61
  fRot : P.funcs[55]? = some Tryd.f55
  fSym : P.funcs[44]? = some Tryd.f44
  fStb : P.funcs[34]? = some Tryd.f34
  fSrt : P.funcs[22]? = some Tryd.f22
  t0 : P.underlying 0 = some (TypeDesc.tuple #[])
  a0 : ∀ w, (isAgg 0).run P w = .ok false w
  z0 : ∀ w, (Go.sizeOf 0).run P w = .ok 1 w
  v0 : ∀ w, (zeroValue 0).run P w = .ok (Value.tuple #[]) w
  t3 : P.underlying 3 = some (TypeDesc.int IntKind.i64)
  a3 : ∀ w, (isAgg 3).run P w = .ok false w
  z3 : ∀ w, (Go.sizeOf 3).run P w = .ok 1 w
  v3 : ∀ w, (zeroValue 3).run P w = .ok (Value.int IntKind.i64 0) w
  t4 : P.underlying 4 = some (TypeDesc.bool)
  a4 : ∀ w, (isAgg 4).run P w = .ok false w
  z4 : ∀ w, (Go.sizeOf 4).run P w = .ok 1 w
  v4 : ∀ w, (zeroValue 4).run P w = .ok (Value.bool false) w
  t9 : P.underlying 105 = some (TypeDesc.int IntKind.u64)
  a9 : ∀ w, (isAgg 105).run P w = .ok false w
  z9 : ∀ w, (Go.sizeOf 105).run P w = .ok 1 w
  v9 : ∀ w, (zeroValue 105).run P w = .ok (Value.int IntKind.u64 0) w
  tS : P.underlying 29 = some (TypeDesc.slice 37)
  aS : ∀ w, (isAgg 29).run P w = .ok false w
  zS : ∀ w, (Go.sizeOf 29).run P w = .ok 1 w
  vS : ∀ w, (zeroValue 29).run P w = .ok (Value.slice none 0 0) w
  tF : P.underlying 62 = some (TypeDesc.func #[37, 37] #[3] false)
  aF : ∀ w, (isAgg 62).run P w = .ok false w
  zF : ∀ w, (Go.sizeOf 62).run P w = .ok 1 w
  vF : ∀ w, (zeroValue 62).run P w = .ok (Value.nilFunc) w
  aE : ∀ w, (isAgg 37).run P w = .ok true w
  zE : ∀ w, (Go.sizeOf 37).run P w = .ok k w
theorem srtL : SrtL Tryd.prog 9 := {
  mixed := by kernel_rfl
  fIns := Tryd.func43
  fSwr := Tryd.func61
  fRot := Tryd.func55
  fSym := Tryd.func44
  fStb := Tryd.func34
  fSrt := Tryd.func22
  t0 := Tryd.underlying0
  a0 := Tryd.isAgg0
  z0 := Tryd.sizeOf0
  v0 := Tryd.zeroValue0
  t3 := Tryd.underlying3
  a3 := Tryd.isAgg3
  z3 := Tryd.sizeOf3
  v3 := Tryd.zeroValue3
  t4 := Tryd.underlying4
  a4 := Tryd.isAgg4
  z4 := Tryd.sizeOf4
  v4 := Tryd.zeroValue4
  t9 := Tryd.underlying105
  a9 := Tryd.isAgg105
  z9 := Tryd.sizeOf105
  v9 := Tryd.zeroValue105
  tS := Tryd.underlying29
  aS := Tryd.isAgg29
  zS := Tryd.sizeOf29
  vS := Tryd.zeroValue29
  tF := Tryd.underlying62
  aF := Tryd.isAgg62
  zF := Tryd.sizeOf62
  vF := Tryd.zeroValue62
  aE := Tryd.isAgg37
  zE := Tryd.sizeOf37 }
def insRen : Go.Shelf.Ren := ⟨fun | 20 => 43 | n => n, fun | 22 => 29 | 24 => 37 | 25 => 62 | n => n, fun | n => n⟩
theorem insLays {P : Program} {k : Nat} (L : SrtL P k) : SlLaysF0.n20 P insRen := {
  mixed := L.mixed
  f20 := ⟨Tryd.f43.name, by decide, L.fIns.trans (congrArg some (by kernel_rfl))⟩
  t0 := L.t0
  a0 := L.a0
  z0 := L.z0
  v0 := L.v0
  t3 := L.t3
  a3 := L.a3
  z3 := L.z3
  v3 := L.v3
  t4 := L.t4
  a4 := L.a4
  z4 := L.z4
  v4 := L.v4
  t22 := L.tS
  a22 := L.aS
  z22 := L.zS
  v22 := L.vS
  t25 := L.tF
  a25 := L.aF
  z25 := L.zF
  v25 := L.vF
}

/-- What the sort is told of its row and of its order, once: a row of elements of k cells, a comparison by a key. -/
structure SR {α : Type} [Inhabited α] (P : Program) (k : Nat) (enc : α → List Value) (key : α → Int) (g : Nat) (cb : Array Value) (blk off : Nat) (d0 : Array α) (w0 : World) : Prop where
  row : RowK enc k w0 blk off d0
  eg : ∀ args w, (callFunc g args).run P w = .ok (.enter g args) w
  cmp : CmpLays P g cb enc k (fun x y => Lib.compareInt (key y) (key x)) blk off d0.size w0
  sz : d0.size ≤ 100000
variable {α : Type} [Inhabited α] {P : Program} {k : Nat} {enc : α → List Value} {key : α → Int} {g : Nat} {cb : Array Value} {blk off : Nat} {d0 : Array α} {w0 : World}
omit [Inhabited α] in
theorem lt_brt : (ltOf fun x y : α => Lib.compareInt (key y) (key x)) = brt key := by
  funext x y
  unfold ltOf brt Lib.compareInt
  by_cases h1 : key y < key x
  · simp [h1]
  · by_cases h2 : key x < key y <;> simp [h1, h2]
omit [Inhabited α] in
theorem swo_brt : SWO (brt key) where
  irrefl x := by unfold brt; simp
  trans x y z h1 h2 := by unfold brt at *; simp at *; omega
  ntrans x y z h1 h2 := by unfold brt at *; simp at *; omega
/-- The insertion sort, from a world of the sort's to a world of the sort's. -/
theorem ins_any (L : SrtL P k) (R : SR P k enc key g cb blk off d0 w0) (cap a b : Nat) (d : Array α) (w : World) (hs : d.size = d0.size) (S : SWK enc k w0 blk off d w) (hab : a ≤ b) (hb : b ≤ d.size) :
    Calls P 43 #[.slice (some ⟨blk, off, none⟩) d.size cap, .int .i64 a, .int .i64 b, .func (.func g) #[] cb] w fun e w' => e = .returned (.tuple #[]) ∧ SWK enc k w0 blk off (insertionSort (brt key) d a b) w' := by
  obtain ⟨n, os, rfl⟩ := S
  have hsz := R.sz
  have h := AnyQ.insertionSortCmpFunc (insLays L) k L.aE L.zE enc R.row.hk R.row.h1 (fun x y => Lib.compareInt (key y) (key x)) g cb blk off cap a b d (sortWorldK enc k w0 blk off n d os) R.eg
    (fun m os' dk hdk x y => by
      obtain ⟨m2, os2, e2⟩ := (show SWK enc k w0 blk off d (sortWorldK enc k w0 blk off n d os) from ⟨n, os, rfl⟩).on R.row.hblk m dk os' hdk
      rw [e2]
      exact R.cmp m2 os2 dk (hdk.trans hs) x y)
    ((show SWK enc k w0 blk off d (sortWorldK enc k w0 blk off n d os) from ⟨n, os, rfl⟩).holds R.row.hblk R.row.hH hs) ((show SWK enc k w0 blk off d (sortWorldK enc k w0 blk off n d os) from ⟨n, os, rfl⟩).lt R.row.hblk) hab hb (by omega)
  rw [lt_brt] at h
  exact h.mono fun e w' ⟨he, m, os', hw⟩ => ⟨he, by
    rw [hw]
    exact SWK.on ⟨n, os, rfl⟩ R.row.hblk m _ os' (insertionSort_holds swo_brt d a b hab hb).1.1⟩
end Go.Proofs.YthbekddpnkammaaDoor
