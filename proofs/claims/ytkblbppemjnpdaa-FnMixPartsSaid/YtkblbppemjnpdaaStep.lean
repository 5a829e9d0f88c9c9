/- Small lemmas on worlds behind calls. -/
import Derived.Test.YtkblbppemjnpdaaGcd
namespace Go.Proofs.Ytkblbppemjnpdaa
open Go.RowKit
set_option linter.unusedVariables false

theorem Below.step0 {W w w2 : World} (C : Below W.heap.size W w) (b : Below w.heap.size w w2) : Below W.heap.size W w2 := C.trans (b.mono C.size)
theorem Below.step1 {W w w2 : World} {o : Obj} (C : Below W.heap.size W w) (b : Below (w.alloc o).heap.size (w.alloc o) w2) : Below W.heap.size W w2 :=
  (C.alloc C.size o).trans (b.mono (Nat.le_trans C.size (by simp)))
theorem Below.step2 {W w w2 : World} {o o2 : Obj} (C : Below W.heap.size W w) (b : Below ((w.alloc o).alloc o2).heap.size ((w.alloc o).alloc o2) w2) : Below W.heap.size W w2 :=
  Below.step1 (C.alloc C.size o) b
theorem Below.step3 {W w w2 : World} {o o2 o3 : Obj} (C : Below W.heap.size W w) (b : Below (((w.alloc o).alloc o2).alloc o3).heap.size (((w.alloc o).alloc o2).alloc o3) w2) : Below W.heap.size W w2 :=
  Below.step2 (C.alloc C.size o) b
theorem Below.step4 {W w w2 : World} {o o2 o3 o4 : Obj} (C : Below W.heap.size W w) (b : Below ((((w.alloc o).alloc o2).alloc o3).alloc o4).heap.size ((((w.alloc o).alloc o2).alloc o3).alloc o4) w2) : Below W.heap.size W w2 :=
  Below.step3 (C.alloc C.size o) b
theorem Below.draw {B : Nat} {W w w2 : World} (b : Below B w.drew w2) : Below B w w2 := ⟨b.os, b.tape, b.output, b.size, b.block⟩

/-- What lies in blocks below, behind a call. -/
theorem blw {W w1 : World} (hb : Below W.heap.size W w1) : (∀ b o, b < W.heap.size → w1.cell? ⟨b, o, none⟩ = W.cell? ⟨b, o, none⟩) ∧ (∀ b o, b < W.heap.size → w1.frozen? ⟨b, o, none⟩ = W.frozen? ⟨b, o, none⟩) :=
  ⟨fun b o h => hb.cell (p := ⟨b, o, none⟩) h, fun b o h => hb.frozen (p := ⟨b, o, none⟩) h⟩

theorem Below.lt1 {B : Nat} {w w2 : World} {o : Obj} (A : Below B (w.alloc o) w2) : w.heap.size < w2.heap.size := by have := A.size; simp at this; omega
theorem Below.lt2 {B : Nat} {w w2 : World} {o o2 : Obj} (A : Below B ((w.alloc o).alloc o2) w2) : w.heap.size < w2.heap.size ∧ w.heap.size + 1 < w2.heap.size := by have := A.size; simp at this; omega
theorem Below.lt3 {B : Nat} {w w2 : World} {o o2 o3 : Obj} (A : Below B (((w.alloc o).alloc o2).alloc o3) w2) : w.heap.size < w2.heap.size ∧ w.heap.size + 1 < w2.heap.size ∧ w.heap.size + 1 + 1 < w2.heap.size := by have := A.size; simp at this; omega
theorem Below.lt4 {B : Nat} {w w2 : World} {o o2 o3 o4 : Obj} (A : Below B ((((w.alloc o).alloc o2).alloc o3).alloc o4) w2) : w.heap.size < w2.heap.size ∧ w.heap.size + 1 < w2.heap.size ∧ w.heap.size + 1 + 1 < w2.heap.size ∧ w.heap.size + 1 + 1 + 1 < w2.heap.size := by have := A.size; simp at this; omega
end Go.Proofs.Ytkblbppemjnpdaa
