-- WRITTEN BY A PROGRAM OF THIS SESSION (wip/tools/xprint.py, over the kit's print.py).
import Derived.Test.YthnlgnnodgeneaaDoorProg
import Derived.WalkLawsBesides
import Derived.Below
import Derived.Deep.Draws
import Derived.Deep.AppendLies
import Derived.Maps.AppendAt
import Derived.OwnWalk
import Derived.Laws.BytesArg
import Derived.Laws.MakeOwn
import Derived.Laws.OwnMore
import Derived.Deep.OwnRows
import Derived.Tactics
import Derived.Lib.ConvBytes
import Derived.Laws.Slices
import Derived.WalkKit
import Derived.KernelRfl
import Derived.RowKit3
import Derived.Deep.LoopGhost
import Derived.Deep.QuietTactic
import Derived.BigQuiet
import Derived.WideLaws
import Derived.Deep.DeepCutAuto
import Derived.Deep.CutBlock
import Derived.Deep.RegionHeld3
import Derived.Laws.Rows
import Derived.Lib.AppendStr
import Derived.ArgAppend
import Derived.Laws.IdiomCopy
import Derived.OrdersHeld
import Derived.Laws.BitsLemmas
import Derived.RowKit
import Derived.Test.YthnlgnnodgeneaaDoorBuilderKit
import Derived.Test.YthnlgnnodgeneaaDoorEnv
import Derived.Test.YthnlgnnodgeneaaDoorLibAid
import Derived.Test.YthnlgnnodgeneaaDoorShelf
import Derived.ChangeKeysEq
import Derived.Test.YthnlgnnodgeneaaDoorWWords
import Derived.Test.YthnlgnnodgeneaaDoorWLast
import Derived.Test.YthnlgnnodgeneaaDoorWTab
import Derived.Test.YthnlgnnodgeneaaDoorWFour
import Derived.Test.YthnlgnnodgeneaaDoorWQPut
import Derived.Test.YthnlgnnodgeneaaDoorWApart
import Derived.Test.YthnlgnnodgeneaaDoorWArr
import Derived.Test.YthnlgnnodgeneaaDoorWZeros
import Derived.Test.YthnlgnnodgeneaaDoorWFoot
import Derived.Test.YthnlgnnodgeneaaDoorWKept
import Derived.Test.YthnlgnnodgeneaaDoorWShare
import Derived.Test.YthnlgnnodgeneaaDoorWN
import Derived.Test.YthnlgnnodgeneaaDoorWFootNe
import Derived.Test.YthnlgnnodgeneaaDoorWAt
import Derived.Test.YthnlgnnodgeneaaDoorWEqStruct
import Derived.Test.YthnlgnnodgeneaaDoorWRepsOne
import Derived.Test.YthnlgnnodgeneaaDoorWInv
import Derived.Test.YthnlgnnodgeneaaDoorWInvWords
import Derived.Test.YthnlgnnodgeneaaDoorWGuard
import Derived.Test.YthnlgnnodgeneaaDoorWNEv
import Derived.Test.YthnlgnnodgeneaaDoorWMore
namespace Go.Proofs.YthnlgnnodgeneaaDoor.PF
open Go.RowKit Go.Proofs.YthnlgnnodgeneaaDoorW.PrintWords Go.Proofs.YthnlgnnodgeneaaDoorW.PrintLast Go.Proofs.YthnlgnnodgeneaaDoorW.PrintMore Go.Proofs.YthnlgnnodgeneaaDoorE
attribute [local go_sem] max2_int min2_int max_two min_two max_three min_three max_four min_four   -- for this text's walks alone
set_option linter.unusedVariables false
set_option linter.unusedSimpArgs false



def errW : Option Int → Value
  | none => .nilIface
  | some c => .iface 0 (.int .i64 c)
theorem errW_none : errW none = .nilIface := rfl
theorem errW_some (c : Int) : errW (some c) = .iface 0 (.int .i64 c) := rfl

theorem info5 : (Tryd.prog.info? 5).map (fun i => (i.zero, i.size, i.bytes)) = some (some (.int .u8 0), 1, 1) := by kernel_rfl
theorem info9 : (Tryd.prog.info? 9).map (fun i => (i.zero, i.size, i.bytes)) = some (some (.string ⟨#[]⟩), 1, 16) := by kernel_rfl
-- the values' own types
def rd_L1 (xs : List (List ByteArray)) (i : Int) : (List ByteArray) := xs.getD i.toNat ([] : List ByteArray)
theorem at_L1 {w : World} {A : Option Addr} {n : Nat} {xs : List (List ByteArray)} (h : Kd.C (Kd.slice 9 Kd.string) w A n xs) (i : Int) (h0 : 0 ≤ i) (h1 : i < n) : ∃ ad A0 c0, A = some ad ∧ w.cell? (ad.add i.toNat) = some (.slice A0 (rd_L1 xs i).length c0) ∧ (rd_L1 xs i).length ≤ c0 ∧ Kd.string.C w A0 (rd_L1 xs i).length (rd_L1 xs i) := by
  obtain ⟨ad, c, e, _, hK, hc0⟩ := Kd.C_get h ([] : List ByteArray) i h0 h1
  have hc : ∀ j u, c[j]? = some u → w.cell? (ad.add (i.toNat * 1 + j)) = some u := hc0
  obtain ⟨A0, c0, rfl, l0, g0⟩ := hK
  exact ⟨ad, A0, c0, e, by have hq := hc 0 _ rfl; rwa [Nat.mul_one, Nat.add_zero] at hq, l0, g0⟩

/-! #### struct type 25 -/
structure S25 where
  f0 : Int
  f1 : Int
  f2 : Int
  f3 : Int
  f4 : Int
  f5 : Int
  f6 : Int
  f7 : Int
def z25 : S25 := ⟨(0 : Int), (0 : Int), (0 : Int), (0 : Int), (0 : Int), (0 : Int), (0 : Int), (0 : Int)⟩
def k25 : Kd S25 := Kd.iso (Kd.pair (Kd.int .u16) (Kd.pair (Kd.int .u16) (Kd.pair (Kd.int .u16) (Kd.pair (Kd.int .u16) (Kd.pair (Kd.int .u16) (Kd.pair (Kd.int .u16) (Kd.pair (Kd.int .u16) (Kd.int .u16)))))))) (fun x : S25 => (x.f0, x.f1, x.f2, x.f3, x.f4, x.f5, x.f6, x.f7))
theorem k25_open {w : World} {x : S25} {cs : List Value} (h : k25.K w x cs) : cs = [.int .u16 x.f0, .int .u16 x.f1, .int .u16 x.f2, .int .u16 x.f3, .int .u16 x.f4, .int .u16 x.f5, .int .u16 x.f6, .int .u16 x.f7] := by
  obtain ⟨_, _, rfl, rfl, ⟨_, _, rfl, rfl, ⟨_, _, rfl, rfl, ⟨_, _, rfl, rfl, ⟨_, _, rfl, rfl, ⟨_, _, rfl, rfl, ⟨_, _, rfl, rfl, rfl⟩⟩⟩⟩⟩⟩⟩ := h
  exact rfl
theorem k25_openM {w : World} {base : Nat} {ok : Nat → Prop} {x : S25} {cs : List Value} (h : k25.M w base ok x cs) : cs = [.int .u16 x.f0, .int .u16 x.f1, .int .u16 x.f2, .int .u16 x.f3, .int .u16 x.f4, .int .u16 x.f5, .int .u16 x.f6, .int .u16 x.f7] := by
  obtain ⟨_, _, rfl, rfl, ⟨_, _, rfl, rfl, ⟨_, _, rfl, rfl, ⟨_, _, rfl, rfl, ⟨_, _, rfl, rfl, ⟨_, _, rfl, rfl, ⟨_, _, rfl, rfl, rfl⟩⟩⟩⟩⟩⟩⟩ := h
  exact rfl
theorem k25_mk (w : World) (x : S25)  : k25.K w x [.int .u16 x.f0, .int .u16 x.f1, .int .u16 x.f2, .int .u16 x.f3, .int .u16 x.f4, .int .u16 x.f5, .int .u16 x.f6, .int .u16 x.f7] := ⟨[.int .u16 x.f0], [.int .u16 x.f1, .int .u16 x.f2, .int .u16 x.f3, .int .u16 x.f4, .int .u16 x.f5, .int .u16 x.f6, .int .u16 x.f7], rfl, rfl, ⟨[.int .u16 x.f1], [.int .u16 x.f2, .int .u16 x.f3, .int .u16 x.f4, .int .u16 x.f5, .int .u16 x.f6, .int .u16 x.f7], rfl, rfl, ⟨[.int .u16 x.f2], [.int .u16 x.f3, .int .u16 x.f4, .int .u16 x.f5, .int .u16 x.f6, .int .u16 x.f7], rfl, rfl, ⟨[.int .u16 x.f3], [.int .u16 x.f4, .int .u16 x.f5, .int .u16 x.f6, .int .u16 x.f7], rfl, rfl, ⟨[.int .u16 x.f4], [.int .u16 x.f5, .int .u16 x.f6, .int .u16 x.f7], rfl, rfl, ⟨[.int .u16 x.f5], [.int .u16 x.f6, .int .u16 x.f7], rfl, rfl, ⟨[.int .u16 x.f6], [.int .u16 x.f7], rfl, rfl, rfl⟩⟩⟩⟩⟩⟩⟩
theorem k25_mkM (w : World) (base : Nat) (ok : Nat → Prop) (x : S25)  : k25.M w base ok x [.int .u16 x.f0, .int .u16 x.f1, .int .u16 x.f2, .int .u16 x.f3, .int .u16 x.f4, .int .u16 x.f5, .int .u16 x.f6, .int .u16 x.f7] := ⟨[.int .u16 x.f0], [.int .u16 x.f1, .int .u16 x.f2, .int .u16 x.f3, .int .u16 x.f4, .int .u16 x.f5, .int .u16 x.f6, .int .u16 x.f7], rfl, rfl, ⟨[.int .u16 x.f1], [.int .u16 x.f2, .int .u16 x.f3, .int .u16 x.f4, .int .u16 x.f5, .int .u16 x.f6, .int .u16 x.f7], rfl, rfl, ⟨[.int .u16 x.f2], [.int .u16 x.f3, .int .u16 x.f4, .int .u16 x.f5, .int .u16 x.f6, .int .u16 x.f7], rfl, rfl, ⟨[.int .u16 x.f3], [.int .u16 x.f4, .int .u16 x.f5, .int .u16 x.f6, .int .u16 x.f7], rfl, rfl, ⟨[.int .u16 x.f4], [.int .u16 x.f5, .int .u16 x.f6, .int .u16 x.f7], rfl, rfl, ⟨[.int .u16 x.f5], [.int .u16 x.f6, .int .u16 x.f7], rfl, rfl, ⟨[.int .u16 x.f6], [.int .u16 x.f7], rfl, rfl, rfl⟩⟩⟩⟩⟩⟩⟩
def rd_T25 (xs : List S25) (i : Int) : S25 := xs.getD i.toNat z25
theorem at_T25 {w : World} {A : Option Addr} {n : Nat} {xs : List S25} (h : Kd.C k25 w A n xs) (i : Int) (h0 : 0 ≤ i) (h1 : i < n) : ∃ ad , A = some ad ∧ w.cell? (ad.add (i.toNat * 8)) = some (.int .u16 (rd_T25 xs i).f0) ∧ w.cell? ⟨(ad.add (i.toNat * 8)).block, (ad.add (i.toNat * 8)).off + 1, none⟩ = some (.int .u16 (rd_T25 xs i).f1) ∧ w.cell? ⟨(ad.add (i.toNat * 8)).block, (ad.add (i.toNat * 8)).off + 2, none⟩ = some (.int .u16 (rd_T25 xs i).f2) ∧ w.cell? ⟨(ad.add (i.toNat * 8)).block, (ad.add (i.toNat * 8)).off + 3, none⟩ = some (.int .u16 (rd_T25 xs i).f3) ∧ w.cell? ⟨(ad.add (i.toNat * 8)).block, (ad.add (i.toNat * 8)).off + 4, none⟩ = some (.int .u16 (rd_T25 xs i).f4) ∧ w.cell? ⟨(ad.add (i.toNat * 8)).block, (ad.add (i.toNat * 8)).off + 5, none⟩ = some (.int .u16 (rd_T25 xs i).f5) ∧ w.cell? ⟨(ad.add (i.toNat * 8)).block, (ad.add (i.toNat * 8)).off + 6, none⟩ = some (.int .u16 (rd_T25 xs i).f6) ∧ w.cell? ⟨(ad.add (i.toNat * 8)).block, (ad.add (i.toNat * 8)).off + 7, none⟩ = some (.int .u16 (rd_T25 xs i).f7) := by
  obtain ⟨ad, c, e, _, hK, hc0⟩ := Kd.C_get h z25 i h0 h1
  have hc : ∀ j u, c[j]? = some u → w.cell? (ad.add (i.toNat * 8 + j)) = some u := hc0
  obtain rfl := k25_open hK
  exact ⟨ad, e, hc 0 _ rfl, by rw [← add_field _ _ 1 (by omega)]; exact hc 1 _ rfl, by rw [← add_field _ _ 2 (by omega)]; exact hc 2 _ rfl, by rw [← add_field _ _ 3 (by omega)]; exact hc 3 _ rfl, by rw [← add_field _ _ 4 (by omega)]; exact hc 4 _ rfl, by rw [← add_field _ _ 5 (by omega)]; exact hc 5 _ rfl, by rw [← add_field _ _ 6 (by omega)]; exact hc 6 _ rfl, by rw [← add_field _ _ 7 (by omega)]; exact hc 7 _ rfl⟩

/-! #### struct type 27 -/
structure S27 where
  f0 : Int
  f1 : ByteArray
  f2 : Int
  f3 : S25
def z27 : S27 := ⟨(0 : Int), (⟨#[]⟩ : ByteArray), (0 : Int), z25⟩
def k27 : Kd S27 := Kd.iso (Kd.pair (Kd.int .i64) (Kd.pair Kd.string (Kd.pair (Kd.int .u32) k25))) (fun x : S27 => (x.f0, x.f1, x.f2, x.f3))
theorem k27_open {w : World} {x : S27} {cs : List Value} (h : k27.K w x cs) : cs = [.int .i64 x.f0, .string x.f1, .int .u32 x.f2, .int .u16 x.f3.f0, .int .u16 x.f3.f1, .int .u16 x.f3.f2, .int .u16 x.f3.f3, .int .u16 x.f3.f4, .int .u16 x.f3.f5, .int .u16 x.f3.f6, .int .u16 x.f3.f7] := by
  obtain ⟨_, _, rfl, rfl, ⟨_, _, rfl, rfl, ⟨_, _, rfl, rfl, s3⟩⟩⟩ := h
  obtain rfl := k25_open s3
  exact rfl
theorem k27_openM {w : World} {base : Nat} {ok : Nat → Prop} {x : S27} {cs : List Value} (h : k27.M w base ok x cs) : cs = [.int .i64 x.f0, .string x.f1, .int .u32 x.f2, .int .u16 x.f3.f0, .int .u16 x.f3.f1, .int .u16 x.f3.f2, .int .u16 x.f3.f3, .int .u16 x.f3.f4, .int .u16 x.f3.f5, .int .u16 x.f3.f6, .int .u16 x.f3.f7] := by
  obtain ⟨_, _, rfl, rfl, ⟨_, _, rfl, rfl, ⟨_, _, rfl, rfl, s3⟩⟩⟩ := h
  obtain rfl := k25_openM s3
  exact rfl
theorem k27_mk (w : World) (x : S27)  : k27.K w x [.int .i64 x.f0, .string x.f1, .int .u32 x.f2, .int .u16 x.f3.f0, .int .u16 x.f3.f1, .int .u16 x.f3.f2, .int .u16 x.f3.f3, .int .u16 x.f3.f4, .int .u16 x.f3.f5, .int .u16 x.f3.f6, .int .u16 x.f3.f7] := ⟨[.int .i64 x.f0], [.string x.f1, .int .u32 x.f2, .int .u16 x.f3.f0, .int .u16 x.f3.f1, .int .u16 x.f3.f2, .int .u16 x.f3.f3, .int .u16 x.f3.f4, .int .u16 x.f3.f5, .int .u16 x.f3.f6, .int .u16 x.f3.f7], rfl, rfl, ⟨[.string x.f1], [.int .u32 x.f2, .int .u16 x.f3.f0, .int .u16 x.f3.f1, .int .u16 x.f3.f2, .int .u16 x.f3.f3, .int .u16 x.f3.f4, .int .u16 x.f3.f5, .int .u16 x.f3.f6, .int .u16 x.f3.f7], rfl, rfl, ⟨[.int .u32 x.f2], [.int .u16 x.f3.f0, .int .u16 x.f3.f1, .int .u16 x.f3.f2, .int .u16 x.f3.f3, .int .u16 x.f3.f4, .int .u16 x.f3.f5, .int .u16 x.f3.f6, .int .u16 x.f3.f7], rfl, rfl, (k25_mk w x.f3 )⟩⟩⟩
theorem k27_mkM (w : World) (base : Nat) (ok : Nat → Prop) (x : S27)  : k27.M w base ok x [.int .i64 x.f0, .string x.f1, .int .u32 x.f2, .int .u16 x.f3.f0, .int .u16 x.f3.f1, .int .u16 x.f3.f2, .int .u16 x.f3.f3, .int .u16 x.f3.f4, .int .u16 x.f3.f5, .int .u16 x.f3.f6, .int .u16 x.f3.f7] := ⟨[.int .i64 x.f0], [.string x.f1, .int .u32 x.f2, .int .u16 x.f3.f0, .int .u16 x.f3.f1, .int .u16 x.f3.f2, .int .u16 x.f3.f3, .int .u16 x.f3.f4, .int .u16 x.f3.f5, .int .u16 x.f3.f6, .int .u16 x.f3.f7], rfl, rfl, ⟨[.string x.f1], [.int .u32 x.f2, .int .u16 x.f3.f0, .int .u16 x.f3.f1, .int .u16 x.f3.f2, .int .u16 x.f3.f3, .int .u16 x.f3.f4, .int .u16 x.f3.f5, .int .u16 x.f3.f6, .int .u16 x.f3.f7], rfl, rfl, ⟨[.int .u32 x.f2], [.int .u16 x.f3.f0, .int .u16 x.f3.f1, .int .u16 x.f3.f2, .int .u16 x.f3.f3, .int .u16 x.f3.f4, .int .u16 x.f3.f5, .int .u16 x.f3.f6, .int .u16 x.f3.f7], rfl, rfl, (k25_mkM w base ok x.f3 )⟩⟩⟩
def rd_T27 (xs : List S27) (i : Int) : S27 := xs.getD i.toNat z27
theorem at_T27 {w : World} {A : Option Addr} {n : Nat} {xs : List S27} (h : Kd.C k27 w A n xs) (i : Int) (h0 : 0 ≤ i) (h1 : i < n) : ∃ ad , A = some ad ∧ w.cell? (ad.add (i.toNat * 11)) = some (.int .i64 (rd_T27 xs i).f0) ∧ w.cell? ⟨(ad.add (i.toNat * 11)).block, (ad.add (i.toNat * 11)).off + 1, none⟩ = some (.string (rd_T27 xs i).f1) ∧ w.cell? ⟨(ad.add (i.toNat * 11)).block, (ad.add (i.toNat * 11)).off + 2, none⟩ = some (.int .u32 (rd_T27 xs i).f2) ∧ w.cell? ⟨(ad.add (i.toNat * 11)).block, (ad.add (i.toNat * 11)).off + 3, none⟩ = some (.int .u16 (rd_T27 xs i).f3.f0) ∧ w.cell? ⟨(ad.add (i.toNat * 11)).block, (ad.add (i.toNat * 11)).off + 4, none⟩ = some (.int .u16 (rd_T27 xs i).f3.f1) ∧ w.cell? ⟨(ad.add (i.toNat * 11)).block, (ad.add (i.toNat * 11)).off + 5, none⟩ = some (.int .u16 (rd_T27 xs i).f3.f2) ∧ w.cell? ⟨(ad.add (i.toNat * 11)).block, (ad.add (i.toNat * 11)).off + 6, none⟩ = some (.int .u16 (rd_T27 xs i).f3.f3) ∧ w.cell? ⟨(ad.add (i.toNat * 11)).block, (ad.add (i.toNat * 11)).off + 7, none⟩ = some (.int .u16 (rd_T27 xs i).f3.f4) ∧ w.cell? ⟨(ad.add (i.toNat * 11)).block, (ad.add (i.toNat * 11)).off + 8, none⟩ = some (.int .u16 (rd_T27 xs i).f3.f5) ∧ w.cell? ⟨(ad.add (i.toNat * 11)).block, (ad.add (i.toNat * 11)).off + 9, none⟩ = some (.int .u16 (rd_T27 xs i).f3.f6) ∧ w.cell? ⟨(ad.add (i.toNat * 11)).block, (ad.add (i.toNat * 11)).off + 10, none⟩ = some (.int .u16 (rd_T27 xs i).f3.f7) := by
  obtain ⟨ad, c, e, _, hK, hc0⟩ := Kd.C_get h z27 i h0 h1
  have hc : ∀ j u, c[j]? = some u → w.cell? (ad.add (i.toNat * 11 + j)) = some u := hc0
  obtain rfl := k27_open hK
  exact ⟨ad, e, hc 0 _ rfl, by rw [← add_field _ _ 1 (by omega)]; exact hc 1 _ rfl, by rw [← add_field _ _ 2 (by omega)]; exact hc 2 _ rfl, by rw [← add_field _ _ 3 (by omega)]; exact hc 3 _ rfl, by rw [← add_field _ _ 4 (by omega)]; exact hc 4 _ rfl, by rw [← add_field _ _ 5 (by omega)]; exact hc 5 _ rfl, by rw [← add_field _ _ 6 (by omega)]; exact hc 6 _ rfl, by rw [← add_field _ _ 7 (by omega)]; exact hc 7 _ rfl, by rw [← add_field _ _ 8 (by omega)]; exact hc 8 _ rfl, by rw [← add_field _ _ 9 (by omega)]; exact hc 9 _ rfl, by rw [← add_field _ _ 10 (by omega)]; exact hc 10 _ rfl⟩

/-! #### struct type 30 -/
structure S30 where
  f0 : ByteArray
  f1 : ByteArray
  f2 : ByteArray
  f3 : S27
  f4 : Int
  f5 : Bool
  f6 : (List ByteArray)
  f7 : Bool
  f8 : ByteArray
  f9 : Bool
  f10 : ByteArray
def z30 : S30 := ⟨(⟨#[]⟩ : ByteArray), (⟨#[]⟩ : ByteArray), (⟨#[]⟩ : ByteArray), z27, (0 : Int), false, ([] : List ByteArray), false, (⟨#[]⟩ : ByteArray), false, (⟨#[]⟩ : ByteArray)⟩
def k30 : Kd S30 := Kd.iso (Kd.pair Kd.string (Kd.pair Kd.string (Kd.pair Kd.string (Kd.pair k27 (Kd.pair (Kd.int .i64) (Kd.pair Kd.bool (Kd.pair (Kd.slice 9 Kd.string) (Kd.pair Kd.bool (Kd.pair Kd.string (Kd.pair Kd.bool Kd.string)))))))))) (fun x : S30 => (x.f0, x.f1, x.f2, x.f3, x.f4, x.f5, x.f6, x.f7, x.f8, x.f9, x.f10))
theorem k30_open {w : World} {x : S30} {cs : List Value} (h : k30.K w x cs) : ∃ A16 c16, cs = [.string x.f0, .string x.f1, .string x.f2, .int .i64 x.f3.f0, .string x.f3.f1, .int .u32 x.f3.f2, .int .u16 x.f3.f3.f0, .int .u16 x.f3.f3.f1, .int .u16 x.f3.f3.f2, .int .u16 x.f3.f3.f3, .int .u16 x.f3.f3.f4, .int .u16 x.f3.f3.f5, .int .u16 x.f3.f3.f6, .int .u16 x.f3.f3.f7, .int .i64 x.f4, .bool x.f5, .slice A16 x.f6.length c16, .bool x.f7, .string x.f8, .bool x.f9, .string x.f10] ∧ x.f6.length ≤ c16 ∧ Kd.string.C w A16 x.f6.length x.f6 := by
  obtain ⟨_, _, rfl, rfl, ⟨_, _, rfl, rfl, ⟨_, _, rfl, rfl, ⟨_, _, rfl, s3, ⟨_, _, rfl, rfl, ⟨_, _, rfl, rfl, ⟨_, _, rfl, ⟨A16, c16, rfl, l16, g16⟩, ⟨_, _, rfl, rfl, ⟨_, _, rfl, rfl, ⟨_, _, rfl, rfl, rfl⟩⟩⟩⟩⟩⟩⟩⟩⟩⟩ := h
  obtain rfl := k27_open s3
  exact ⟨A16, c16, rfl, l16, g16⟩
theorem k30_openM {w : World} {base : Nat} {ok : Nat → Prop} {x : S30} {cs : List Value} (h : k30.M w base ok x cs) : ∃ v16, cs = [.string x.f0, .string x.f1, .string x.f2, .int .i64 x.f3.f0, .string x.f3.f1, .int .u32 x.f3.f2, .int .u16 x.f3.f3.f0, .int .u16 x.f3.f3.f1, .int .u16 x.f3.f3.f2, .int .u16 x.f3.f3.f3, .int .u16 x.f3.f3.f4, .int .u16 x.f3.f3.f5, .int .u16 x.f3.f3.f6, .int .u16 x.f3.f3.f7, .int .i64 x.f4, .bool x.f5, v16, .bool x.f7, .string x.f8, .bool x.f9, .string x.f10] ∧ Kd.string.R 9 w base ok v16 x.f6 := by
  obtain ⟨_, _, rfl, rfl, ⟨_, _, rfl, rfl, ⟨_, _, rfl, rfl, ⟨_, _, rfl, s3, ⟨_, _, rfl, rfl, ⟨_, _, rfl, rfl, ⟨_, _, rfl, ⟨v16, rfl, g16⟩, ⟨_, _, rfl, rfl, ⟨_, _, rfl, rfl, ⟨_, _, rfl, rfl, rfl⟩⟩⟩⟩⟩⟩⟩⟩⟩⟩ := h
  obtain rfl := k27_openM s3
  exact ⟨v16, rfl, g16⟩
theorem k30_mk (w : World) (x : S30) {A16 : Option Addr} {c16 : Nat} (l16 : x.f6.length ≤ c16) (g16 : Kd.string.C w A16 x.f6.length x.f6) : k30.K w x [.string x.f0, .string x.f1, .string x.f2, .int .i64 x.f3.f0, .string x.f3.f1, .int .u32 x.f3.f2, .int .u16 x.f3.f3.f0, .int .u16 x.f3.f3.f1, .int .u16 x.f3.f3.f2, .int .u16 x.f3.f3.f3, .int .u16 x.f3.f3.f4, .int .u16 x.f3.f3.f5, .int .u16 x.f3.f3.f6, .int .u16 x.f3.f3.f7, .int .i64 x.f4, .bool x.f5, .slice A16 x.f6.length c16, .bool x.f7, .string x.f8, .bool x.f9, .string x.f10] := ⟨[.string x.f0], [.string x.f1, .string x.f2, .int .i64 x.f3.f0, .string x.f3.f1, .int .u32 x.f3.f2, .int .u16 x.f3.f3.f0, .int .u16 x.f3.f3.f1, .int .u16 x.f3.f3.f2, .int .u16 x.f3.f3.f3, .int .u16 x.f3.f3.f4, .int .u16 x.f3.f3.f5, .int .u16 x.f3.f3.f6, .int .u16 x.f3.f3.f7, .int .i64 x.f4, .bool x.f5, .slice A16 x.f6.length c16, .bool x.f7, .string x.f8, .bool x.f9, .string x.f10], rfl, rfl, ⟨[.string x.f1], [.string x.f2, .int .i64 x.f3.f0, .string x.f3.f1, .int .u32 x.f3.f2, .int .u16 x.f3.f3.f0, .int .u16 x.f3.f3.f1, .int .u16 x.f3.f3.f2, .int .u16 x.f3.f3.f3, .int .u16 x.f3.f3.f4, .int .u16 x.f3.f3.f5, .int .u16 x.f3.f3.f6, .int .u16 x.f3.f3.f7, .int .i64 x.f4, .bool x.f5, .slice A16 x.f6.length c16, .bool x.f7, .string x.f8, .bool x.f9, .string x.f10], rfl, rfl, ⟨[.string x.f2], [.int .i64 x.f3.f0, .string x.f3.f1, .int .u32 x.f3.f2, .int .u16 x.f3.f3.f0, .int .u16 x.f3.f3.f1, .int .u16 x.f3.f3.f2, .int .u16 x.f3.f3.f3, .int .u16 x.f3.f3.f4, .int .u16 x.f3.f3.f5, .int .u16 x.f3.f3.f6, .int .u16 x.f3.f3.f7, .int .i64 x.f4, .bool x.f5, .slice A16 x.f6.length c16, .bool x.f7, .string x.f8, .bool x.f9, .string x.f10], rfl, rfl, ⟨[.int .i64 x.f3.f0, .string x.f3.f1, .int .u32 x.f3.f2, .int .u16 x.f3.f3.f0, .int .u16 x.f3.f3.f1, .int .u16 x.f3.f3.f2, .int .u16 x.f3.f3.f3, .int .u16 x.f3.f3.f4, .int .u16 x.f3.f3.f5, .int .u16 x.f3.f3.f6, .int .u16 x.f3.f3.f7], [.int .i64 x.f4, .bool x.f5, .slice A16 x.f6.length c16, .bool x.f7, .string x.f8, .bool x.f9, .string x.f10], rfl, (k27_mk w x.f3 ), ⟨[.int .i64 x.f4], [.bool x.f5, .slice A16 x.f6.length c16, .bool x.f7, .string x.f8, .bool x.f9, .string x.f10], rfl, rfl, ⟨[.bool x.f5], [.slice A16 x.f6.length c16, .bool x.f7, .string x.f8, .bool x.f9, .string x.f10], rfl, rfl, ⟨[.slice A16 x.f6.length c16], [.bool x.f7, .string x.f8, .bool x.f9, .string x.f10], rfl, ⟨A16, c16, rfl, l16, g16⟩, ⟨[.bool x.f7], [.string x.f8, .bool x.f9, .string x.f10], rfl, rfl, ⟨[.string x.f8], [.bool x.f9, .string x.f10], rfl, rfl, ⟨[.bool x.f9], [.string x.f10], rfl, rfl, rfl⟩⟩⟩⟩⟩⟩⟩⟩⟩⟩
theorem k30_mkM (w : World) (base : Nat) (ok : Nat → Prop) (x : S30) {v16 : Value} (g16 : Kd.string.R 9 w base ok v16 x.f6) : k30.M w base ok x [.string x.f0, .string x.f1, .string x.f2, .int .i64 x.f3.f0, .string x.f3.f1, .int .u32 x.f3.f2, .int .u16 x.f3.f3.f0, .int .u16 x.f3.f3.f1, .int .u16 x.f3.f3.f2, .int .u16 x.f3.f3.f3, .int .u16 x.f3.f3.f4, .int .u16 x.f3.f3.f5, .int .u16 x.f3.f3.f6, .int .u16 x.f3.f3.f7, .int .i64 x.f4, .bool x.f5, v16, .bool x.f7, .string x.f8, .bool x.f9, .string x.f10] := ⟨[.string x.f0], [.string x.f1, .string x.f2, .int .i64 x.f3.f0, .string x.f3.f1, .int .u32 x.f3.f2, .int .u16 x.f3.f3.f0, .int .u16 x.f3.f3.f1, .int .u16 x.f3.f3.f2, .int .u16 x.f3.f3.f3, .int .u16 x.f3.f3.f4, .int .u16 x.f3.f3.f5, .int .u16 x.f3.f3.f6, .int .u16 x.f3.f3.f7, .int .i64 x.f4, .bool x.f5, v16, .bool x.f7, .string x.f8, .bool x.f9, .string x.f10], rfl, rfl, ⟨[.string x.f1], [.string x.f2, .int .i64 x.f3.f0, .string x.f3.f1, .int .u32 x.f3.f2, .int .u16 x.f3.f3.f0, .int .u16 x.f3.f3.f1, .int .u16 x.f3.f3.f2, .int .u16 x.f3.f3.f3, .int .u16 x.f3.f3.f4, .int .u16 x.f3.f3.f5, .int .u16 x.f3.f3.f6, .int .u16 x.f3.f3.f7, .int .i64 x.f4, .bool x.f5, v16, .bool x.f7, .string x.f8, .bool x.f9, .string x.f10], rfl, rfl, ⟨[.string x.f2], [.int .i64 x.f3.f0, .string x.f3.f1, .int .u32 x.f3.f2, .int .u16 x.f3.f3.f0, .int .u16 x.f3.f3.f1, .int .u16 x.f3.f3.f2, .int .u16 x.f3.f3.f3, .int .u16 x.f3.f3.f4, .int .u16 x.f3.f3.f5, .int .u16 x.f3.f3.f6, .int .u16 x.f3.f3.f7, .int .i64 x.f4, .bool x.f5, v16, .bool x.f7, .string x.f8, .bool x.f9, .string x.f10], rfl, rfl, ⟨[.int .i64 x.f3.f0, .string x.f3.f1, .int .u32 x.f3.f2, .int .u16 x.f3.f3.f0, .int .u16 x.f3.f3.f1, .int .u16 x.f3.f3.f2, .int .u16 x.f3.f3.f3, .int .u16 x.f3.f3.f4, .int .u16 x.f3.f3.f5, .int .u16 x.f3.f3.f6, .int .u16 x.f3.f3.f7], [.int .i64 x.f4, .bool x.f5, v16, .bool x.f7, .string x.f8, .bool x.f9, .string x.f10], rfl, (k27_mkM w base ok x.f3 ), ⟨[.int .i64 x.f4], [.bool x.f5, v16, .bool x.f7, .string x.f8, .bool x.f9, .string x.f10], rfl, rfl, ⟨[.bool x.f5], [v16, .bool x.f7, .string x.f8, .bool x.f9, .string x.f10], rfl, rfl, ⟨[v16], [.bool x.f7, .string x.f8, .bool x.f9, .string x.f10], rfl, ⟨v16, rfl, g16⟩, ⟨[.bool x.f7], [.string x.f8, .bool x.f9, .string x.f10], rfl, rfl, ⟨[.string x.f8], [.bool x.f9, .string x.f10], rfl, rfl, ⟨[.bool x.f9], [.string x.f10], rfl, rfl, rfl⟩⟩⟩⟩⟩⟩⟩⟩⟩⟩
def rd_T30 (xs : List S30) (i : Int) : S30 := xs.getD i.toNat z30
theorem at_T30 {w : World} {A : Option Addr} {n : Nat} {xs : List S30} (h : Kd.C k30 w A n xs) (i : Int) (h0 : 0 ≤ i) (h1 : i < n) : ∃ ad A16 c16, A = some ad ∧ w.cell? (ad.add (i.toNat * 21)) = some (.string (rd_T30 xs i).f0) ∧ w.cell? ⟨(ad.add (i.toNat * 21)).block, (ad.add (i.toNat * 21)).off + 1, none⟩ = some (.string (rd_T30 xs i).f1) ∧ w.cell? ⟨(ad.add (i.toNat * 21)).block, (ad.add (i.toNat * 21)).off + 2, none⟩ = some (.string (rd_T30 xs i).f2) ∧ w.cell? ⟨(ad.add (i.toNat * 21)).block, (ad.add (i.toNat * 21)).off + 3, none⟩ = some (.int .i64 (rd_T30 xs i).f3.f0) ∧ w.cell? ⟨(ad.add (i.toNat * 21)).block, (ad.add (i.toNat * 21)).off + 4, none⟩ = some (.string (rd_T30 xs i).f3.f1) ∧ w.cell? ⟨(ad.add (i.toNat * 21)).block, (ad.add (i.toNat * 21)).off + 5, none⟩ = some (.int .u32 (rd_T30 xs i).f3.f2) ∧ w.cell? ⟨(ad.add (i.toNat * 21)).block, (ad.add (i.toNat * 21)).off + 6, none⟩ = some (.int .u16 (rd_T30 xs i).f3.f3.f0) ∧ w.cell? ⟨(ad.add (i.toNat * 21)).block, (ad.add (i.toNat * 21)).off + 7, none⟩ = some (.int .u16 (rd_T30 xs i).f3.f3.f1) ∧ w.cell? ⟨(ad.add (i.toNat * 21)).block, (ad.add (i.toNat * 21)).off + 8, none⟩ = some (.int .u16 (rd_T30 xs i).f3.f3.f2) ∧ w.cell? ⟨(ad.add (i.toNat * 21)).block, (ad.add (i.toNat * 21)).off + 9, none⟩ = some (.int .u16 (rd_T30 xs i).f3.f3.f3) ∧ w.cell? ⟨(ad.add (i.toNat * 21)).block, (ad.add (i.toNat * 21)).off + 10, none⟩ = some (.int .u16 (rd_T30 xs i).f3.f3.f4) ∧ w.cell? ⟨(ad.add (i.toNat * 21)).block, (ad.add (i.toNat * 21)).off + 11, none⟩ = some (.int .u16 (rd_T30 xs i).f3.f3.f5) ∧ w.cell? ⟨(ad.add (i.toNat * 21)).block, (ad.add (i.toNat * 21)).off + 12, none⟩ = some (.int .u16 (rd_T30 xs i).f3.f3.f6) ∧ w.cell? ⟨(ad.add (i.toNat * 21)).block, (ad.add (i.toNat * 21)).off + 13, none⟩ = some (.int .u16 (rd_T30 xs i).f3.f3.f7) ∧ w.cell? ⟨(ad.add (i.toNat * 21)).block, (ad.add (i.toNat * 21)).off + 14, none⟩ = some (.int .i64 (rd_T30 xs i).f4) ∧ w.cell? ⟨(ad.add (i.toNat * 21)).block, (ad.add (i.toNat * 21)).off + 15, none⟩ = some (.bool (rd_T30 xs i).f5) ∧ w.cell? ⟨(ad.add (i.toNat * 21)).block, (ad.add (i.toNat * 21)).off + 16, none⟩ = some (.slice A16 (rd_T30 xs i).f6.length c16) ∧ w.cell? ⟨(ad.add (i.toNat * 21)).block, (ad.add (i.toNat * 21)).off + 17, none⟩ = some (.bool (rd_T30 xs i).f7) ∧ w.cell? ⟨(ad.add (i.toNat * 21)).block, (ad.add (i.toNat * 21)).off + 18, none⟩ = some (.string (rd_T30 xs i).f8) ∧ w.cell? ⟨(ad.add (i.toNat * 21)).block, (ad.add (i.toNat * 21)).off + 19, none⟩ = some (.bool (rd_T30 xs i).f9) ∧ w.cell? ⟨(ad.add (i.toNat * 21)).block, (ad.add (i.toNat * 21)).off + 20, none⟩ = some (.string (rd_T30 xs i).f10) ∧ (rd_T30 xs i).f6.length ≤ c16 ∧ Kd.string.C w A16 (rd_T30 xs i).f6.length (rd_T30 xs i).f6 := by
  obtain ⟨ad, c, e, _, hK, hc0⟩ := Kd.C_get h z30 i h0 h1
  have hc : ∀ j u, c[j]? = some u → w.cell? (ad.add (i.toNat * 21 + j)) = some u := hc0
  obtain ⟨A16, c16, rfl, l16, g16⟩ := k30_open hK
  exact ⟨ad, A16, c16, e, hc 0 _ rfl, by rw [← add_field _ _ 1 (by omega)]; exact hc 1 _ rfl, by rw [← add_field _ _ 2 (by omega)]; exact hc 2 _ rfl, by rw [← add_field _ _ 3 (by omega)]; exact hc 3 _ rfl, by rw [← add_field _ _ 4 (by omega)]; exact hc 4 _ rfl, by rw [← add_field _ _ 5 (by omega)]; exact hc 5 _ rfl, by rw [← add_field _ _ 6 (by omega)]; exact hc 6 _ rfl, by rw [← add_field _ _ 7 (by omega)]; exact hc 7 _ rfl, by rw [← add_field _ _ 8 (by omega)]; exact hc 8 _ rfl, by rw [← add_field _ _ 9 (by omega)]; exact hc 9 _ rfl, by rw [← add_field _ _ 10 (by omega)]; exact hc 10 _ rfl, by rw [← add_field _ _ 11 (by omega)]; exact hc 11 _ rfl, by rw [← add_field _ _ 12 (by omega)]; exact hc 12 _ rfl, by rw [← add_field _ _ 13 (by omega)]; exact hc 13 _ rfl, by rw [← add_field _ _ 14 (by omega)]; exact hc 14 _ rfl, by rw [← add_field _ _ 15 (by omega)]; exact hc 15 _ rfl, by rw [← add_field _ _ 16 (by omega)]; exact hc 16 _ rfl, by rw [← add_field _ _ 17 (by omega)]; exact hc 17 _ rfl, by rw [← add_field _ _ 18 (by omega)]; exact hc 18 _ rfl, by rw [← add_field _ _ 19 (by omega)]; exact hc 19 _ rfl, by rw [← add_field _ _ 20 (by omega)]; exact hc 20 _ rfl, l16, g16⟩

theorem eqi_cons {P : Program} {d : Nat} {e : TypeId} {c i : Nat} {is : List Nat} {xs ys : Array Value} {a b : Value} {r s : Bool} {w : World} (ha : (part e xs (i * c)).run P w = .ok a w) (hb : (part e ys (i * c)).run P w = .ok b w) (he : (Op.equalIn d e a b).run P w = .ok r w) (hr : (Op.eqItems d e c xs ys is).run P w = .ok s w) : (Op.eqItems d e c xs ys (i :: is)).run P w = .ok (r && s) w := by
  rw [Op.eqItems]
  simp only [Sem.run_bind, ha, hb, he, Result.andThen_ok]
  cases r
  · simp
  · simpa using hr
theorem eqi_last {P : Program} {d : Nat} {e : TypeId} {c i : Nat} {xs ys : Array Value} {a b : Value} {r : Bool} {w : World} (ha : (part e xs (i * c)).run P w = .ok a w) (hb : (part e ys (i * c)).run P w = .ok b w) (he : (Op.equalIn d e a b).run P w = .ok r w) : (Op.eqItems d e c xs ys [i]).run P w = .ok r w := by
  have := eqi_cons (is := []) (s := true) ha hb he (by simp [Op.eqItems])
  rwa [Bool.and_true] at this
theorem arr_cell {α : Type} (enc : α → Value) (d : α) {w : World} {g : Nat} {t : TypeId} {xs : List α} (h : w.heap[g]? = some (.cells (xs.map enc).toArray t (0, 0))) (i : Int) (h0 : 0 ≤ i) (h1 : i < (xs.length : Int)) : w.cell? ⟨g, i.toNat, none⟩ = some (enc (xs.getD i.toNat d)) := by
  rw [blk_cell h]
  have hl : i.toNat < xs.length := by omega
  simp [hl]
def upd {α : Type} (i : Int) (y : α) : Nat → List α → List α
  | _, [] => []
  | k, x :: xs => (if i = (k : Int) then y else x) :: upd i y (k + 1) xs
theorem upd_eq {α : Type} (i : Int) (y : α) (xs : List α) : ∀ k : Nat, (k : Int) ≤ i → upd i y k xs = xs.set (i.toNat - k) y := by
  induction xs with
  | nil => intro k h; rfl
  | cons x xs ih =>
    intro k h
    unfold upd
    by_cases hk : i = (k : Int)
    · have : i.toNat - k = 0 := by omega
      rw [this, if_pos hk, List.set_cons_zero]
      have id_ : ∀ (xs : List α) (m : Nat), i < (m : Int) → upd i y m xs = xs := by
        intro xs
        induction xs with
        | nil => intro m _; rfl
        | cons z zs ih2 => intro m hm; unfold upd; rw [if_neg (by omega), ih2 (m + 1) (by omega)]
      rw [id_ xs (k + 1) (by omega)]
    · rw [if_neg hk, ih (k + 1) (by omega), show i.toNat - k = (i.toNat - (k + 1)) + 1 by omega, List.set_cons_succ]
theorem arr_set {α : Type} (enc : α → Value) (xs : List α) (i : Int) (h0 : 0 ≤ i) (y : α) : (xs.map enc).toArray.setIfInBounds i.toNat (enc y) = ((upd i y 0 xs).map enc).toArray := by
  rw [upd_eq i y xs 0 h0]
  simp [List.map_set]
theorem gate_load {P : Program} {ops : Array Oper} {rest : List Oper} {o : Oper} {a : Act} {Q : Exit → Act → World → Prop} {W : World} {t : TypeId} {p N : Tmp} (_ho : o.op = .load t (.tmp p)) (_hd : o.dst = some N) (h : wpList P ops Q (o :: rest) a W) : wpList P ops Q (o :: rest) a W := h
theorem load_event {P : Program} {ops : Array Oper} {rest : List Oper} {o : Oper} {a : Act} {Q : Exit → Act → World → Prop} {W : World} (hgd : o.guard = none) {t : TypeId} {p : Tmp} (ho : o.op = .load t (.tmp p)) {g T : Nat} {cs : Array Value} {d : TypeDesc}
    (hp : a.eval (.tmp p) = .pointer (some ⟨g, 0, none⟩)) (hb : W.heap[g]? = some (.cells cs T (0, 0))) (hu : P.underlying t = some d) (hd : (match d with | .struct _ | .array _ _ => true | _ => false) = true) (hi : (P.info? t).map (·.size) = some cs.size)
    (h : wpList P ops Q rest (a.put o.dst (.agg cs)) W) : wpList P ops Q (o :: rest) a W :=
  Kd.event_run hgd (by
    unfold execOp
    simp only [ho, hp, Instr.loadAt, Instr.sureAddr, Sem.run_bind, Sem.run_pure, Result.andThen_ok, run_loadVar_row W g T t cs (0, 0) d hb hu hd hi]) h
/-- A block was written whole; all else is as it was. -/
def WholeK (g : Nat) (W w' : World) : Prop := (w'.os = W.os ∧ w'.tape = W.tape ∧ w'.output = W.output ∧ w'.heap.size = W.heap.size) ∧ ∀ k, k ≠ g → w'.heap[k]? = W.heap[k]?
theorem WholeK.below {g B : Nat} {a W w' : World} (hk : WholeK g W w') (h : Below B a W) (hg : B ≤ g) : Below B a w' :=
  ⟨hk.1.1.trans h.os, hk.1.2.1.trans h.tape, hk.1.2.2.1.trans h.output, by rw [hk.1.2.2.2]; exact h.size, fun i hi => (hk.2 i (by omega)).trans (h.block i hi)⟩
theorem blk_whole {g k : Nat} {W w' : World} {o : Obj} (h : W.heap[k]? = some o) (hk : WholeK g W w') (hne : k ≠ g) : w'.heap[k]? = some o := (hk.2 k hne).trans h
theorem whole_event {P : Program} {ops : Array Oper} {rest : List Oper} {o : Oper} {a : Act} {Q : Exit → Act → World → Prop} {W : World} (hgd : o.guard = none) {t : TypeId} {p : Tmp} {v : Operand} (ho : o.op = .store t (.tmp p) v) (hN : o.dst = none)
    {g T : Nat} {old : Array Value} {cs : Array Value} {u : Value} (hp : a.eval (.tmp p) = .pointer (some ⟨g, 0, none⟩)) (hv : a.eval v = u) (hu : u.cells.toList = cs.toList) (hb : W.heap[g]? = some (.cells old T (0, 0))) (hs : cs.size = old.size)
    (ht : (P.info? t).map (·.size) = some cs.toList.length) (h1 : cs.toList.all Value.oneCell' = true)
    (h : ∀ w', w'.heap[g]? = some (.cells cs T (0, 0)) → WholeK g W w' → wpList P ops Q rest a w') : wpList P ops Q (o :: rest) a W := by
  have hlen : cs.toList.length = cs.size := Array.length_toList
  have hfit : 0 + cs.toList.length ≤ old.size := by rw [hlen, hs]; exact Nat.le_of_eq (Nat.zero_add _)
  have hrun := run_store_run (P := P) t u cs.toList hb hu ht hfit (fun q hq => List.all_eq_true.1 h1 q hq)
  refine wpList_plain hgd fun K hK => ?_
  unfold Oper.wp
  have hex : (execOp a.eval o).run P W = .ok .skip (W.setCells g 0 cs.toList) := by
    unfold execOp
    simp only [ho, hp, hv, Sem.run_bind, hrun, Result.andThen_ok, Sem.run_pure]
  rw [hex]
  show K (a.put o.dst undef) _
  rw [hN]
  have hrow := setCells_row (g := g) (e := T) cs.toList 0 W old hb hfit
  have hsame := setCells_same g cs.toList 0 W
  refine hK _ _ (h _ ?_ ⟨⟨hsame.1, hsame.2.1, hsame.2.2.1, hsame.2.2.2⟩, fun k hk => setCells_far cs.toList 0 k hk⟩)
  obtain ⟨cur', h3, h4, h5⟩ := hrow
  have he : cur' = cs := by
    apply Array.ext'
    rw [h5, List.take_zero, List.nil_append, List.drop_eq_nil_of_le (by rw [Nat.zero_add, hlen, hs, Array.length_toList]; exact Nat.le_refl _), List.append_nil]
  rw [he] at h3
  exact h3

end Go.Proofs.YthnlgnnodgeneaaDoor.PF
