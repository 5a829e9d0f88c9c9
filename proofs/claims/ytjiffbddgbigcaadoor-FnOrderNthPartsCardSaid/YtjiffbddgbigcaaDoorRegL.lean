/- A drawn region in a round whose last operation waits for all others; appends to two rows. -/
import Derived.Test.YtjiffbddgbigcaaDoorBox
import Derived.Test.YtjiffbddgbigcaaDoorLast
import Derived.Test.YtjiffbddgbigcaaDoorStepA
namespace Go.Proofs.YtjiffbddgbigcaaDoor
open Go.RowKit Go.Shelf
set_option linter.unusedVariables false
set_option linter.unusedSimpArgs false

theorem wpIn_region_last {P : Program} {Q : Exit → Act → World → Prop} {id : Nat} {a : Act} {w : World} {ops : List Oper} (lp m : Nat) (S : World → Prop) (n : Nat) (hn : n < ops.length) (he : n + 1 = ops.length) (hd : NoDefer ops.toArray) (hm : P.follows .mixedOrders = true) (hu : upB .any (ops.take n) = true) (hl : lastB .any (ops.take n) ops[n] = true)
    (h : wpAnyH P .any (ops.take n).toArray (LastQ P ops[n] (OnlyN Q)) S n (Array.replicate n false) a w.drew) : (Code.region id ops.toArray true).wpIn (Fence.wide.inRound lp) m P Q a w := by
  have hl1 : (ops.take n).length = n := by rw [List.length_take]; omega
  have hops : ops = ops.take n ++ [ops[n]] := by
    have e2 := List.take_succ_eq_append_getElem hn
    rw [List.take_of_length_le (by omega)] at e2
    exact e2
  refine wpIn_mono (wpIn_region_any hm (wpAnyIn_of lp m hd _ _ _ _ ?_)) OnlyN.imp
  have h1 := wpAny_last (o := ops[n]) (Q := OnlyN Q) hu hl (ops.take n).length (Array.replicate n false) a w.drew (by rw [hl1]; simp) (by rw [hl1]; exact wpAny_of_held _ _ _ _ h)
  have e1 : ((Array.replicate n false).push false) = Array.replicate ops.length false := by
    rw [← he, Array.replicate_succ]
  rw [e1, hl1, ← hops, he] at h1
  simpa using h1

theorem keeps_grow {B e size n : Nat} {w w' : World} {v : Value} {xs : List Value} (h : w.ownsRow B e size v n xs) (hg : w.grownBy w' v.ownBlock) : KeepsFrom B w w' :=
  ⟨hg.size, fun k o hB hk ho => (hg.block k (Array.getElem?_eq_some_iff.1 hk).1 (fun q => by
    rcases h.2 with ⟨h1, _⟩ | ⟨g', cap, cur, h1, _, h2, _⟩
    · rw [h1] at q; cases q
    · rw [h1] at q
      cases q
      rw [h2] at hk
      cases hk
      cases ho)).trans hk⟩
/-- Amid the appends of a round. -/
def St (n : Nat) (W W' : World) (va vb : Value) (na nb : Nat) (A B : List Int) : Prop := Below (n + 8) W W' ∧ KeepsFrom (n + 8) W W' ∧ Row2 (n + 8) W' va vb na nb A B ∧ n + 8 ≤ W'.heap.size
theorem St.alloc {n : Nat} {W W' : World} {va vb : Value} {na nb : Nat} {A B : List Int} (h : St n W W' va vb na nb A B) (o : Obj) : St n W (W'.alloc o) va vb na nb A B :=
  ⟨h.1.alloc h.2.2.2 o, h.2.1.trans (KeepsFrom.of_grownBy (World.grownBy_alloc W' o none) (fun j e => by cases e)), h.2.2.1.alloc o, by rw [World.size_alloc]; have := h.2.2.2; omega⟩
theorem St.appA {n : Nat} {W w w' : World} {v v' u : Value} {na nb : Nat} {A B : List Int} {x : Int} (h : St n W w v v' na nb A B) (ho : w'.ownsRow (n + 8) 3 1 u (na + 1) (il A ++ [.int .i64 x]))
    (hg : w.grownBy w' v.ownBlock) (hl : u.ownBlock = v.ownBlock ∨ u.ownBlock = some w.heap.size) : St n W w' u v' (na + 1) nb (A ++ [x]) B :=
  ⟨h.1.grown hg h.2.2.2 (fun k e => (h.2.2.1.1.lt k e).1), h.2.1.trans (keeps_grow h.2.2.1.1 hg), h.2.2.1.app ho hg hl, Nat.le_trans h.2.2.2 hg.size⟩
theorem St.swap {n : Nat} {W w : World} {v v' : Value} {na nb : Nat} {A B : List Int} (h : St n W w v v' na nb A B) : St n W w v' v nb na B A := ⟨h.1, h.2.1, h.2.2.1.swap, h.2.2.2⟩
theorem St.cell {n : Nat} {W w : World} {v v' u : Value} {na nb k : Nat} {A B : List Int} (h : St n W w v v' na nb A B) (hk : k < n + 8) (hc : W.cell? ⟨k, 0, none⟩ = some u) : w.cell? ⟨k, 0, none⟩ = some u := (World.cell?_of_block (h.1.block k hk)).trans hc
theorem St.frozen {n : Nat} {W w : World} {v v' : Value} {na nb k : Nat} {A B : List Int} (h : St n W w v v' na nb A B) (hk : k < n + 8) (hc : W.frozen? ⟨k, 0, none⟩ = false) : w.frozen? ⟨k, 0, none⟩ = false := (World.frozen?_of_block (h.1.block k hk)).trans hc
/-- A block of one number, made for an append; v's row lies elsewhere. -/
def Bk (w : World) (b : Nat) (x : Int) (v : Value) : Prop := w.heap[b]? = some (.cells #[.int .i64 x] 3) ∧ ∀ g, v.ownBlock = some g → g < b
theorem Bk.lt {w : World} {b : Nat} {x : Int} {v : Value} (h : Bk w b x v) : b < w.heap.size := (Array.getElem?_eq_some_iff.1 h.1).1
theorem Bk.alloc {w : World} {b : Nat} {x : Int} {v : Value} (h : Bk w b x v) (o : Obj) : Bk (w.alloc o) b x v := ⟨(Below.heap_alloc _ _ _ h.lt).trans h.1, h.2⟩
theorem Bk.app {w w' : World} {b : Nat} {x : Int} {v : Value} (h : Bk w b x v) (hg : w.grownBy w' v.ownBlock) : w'.heap[b]? = some (.cells #[.int .i64 x] 3) := (hg.block b h.lt (fun q => by have := h.2 b q.symm; omega)).trans h.1
theorem bk_new {n : Nat} {W w : World} {v v' : Value} {na nb : Nat} {A B : List Int} (h : St n W w v v' na nb A B) (x : Int) (b : Nat) (hb : w.heap.size = b) : Bk (w.alloc (.cells #[.int .i64 x] 3)) b x v := by
  subst hb
  exact ⟨World.alloc_heap_new w _, fun g q => (h.2.2.1.1.lt g q).2⟩
theorem bk_news {w : World} {b : Nat} {x : Int} (h : w.heap[b]? = some (.cells #[.int .i64 x] 3)) : ∀ j u, [Value.int .i64 x][j]? = some u → w.cell? ((⟨b, 0, none⟩ : Addr).add j) = some u := World.news_of_block (cs := #[.int .i64 x]) (t := 3) (fr := (0, 0)) h
/-- The round's end. -/
theorem St.box {n : Nat} {w W W' : World} {u u' : Value} {pre : List (List UInt8)} {x : List UInt8} (hn : n = w.heap.size) (hI : BoxI n w pre W) (hx : ab x = true) (h : St n W W' u u' (pre.length + 1) (pre.length + 1) (nA pre ++ [((x.count 97 : Nat) : Int)]) (nB pre ++ [((x.count 98 : Nat) : Int)])) :
    KeepsFrom (n + 8) W ((W'.setCell ⟨n + 3, 0, none⟩ u).setCell ⟨n + 4, 0, none⟩ u') ∧ KR (n + 5) (n + 8) W ((W'.setCell ⟨n + 3, 0, none⟩ u).setCell ⟨n + 4, 0, none⟩ u') ∧ BoxI n w (pre ++ [x]) ((W'.setCell ⟨n + 3, 0, none⟩ u).setCell ⟨n + 4, 0, none⟩ u') := by
  obtain ⟨R0, ⟨v, v', c1, c2, _⟩, ⟨f1, f2⟩, ha, hb, hz⟩ := hI
  have d1 := h.cell (k := n + 3) (by omega) c1
  have d2 := h.cell (k := n + 4) (by omega) c2
  have e1 := h.frozen (k := n + 3) (by omega) f1
  have e2 := h.frozen (k := n + 4) (by omega) f2
  obtain ⟨b, k, r, z⟩ := h
  have far : ∀ j, j ≠ n + 3 → j ≠ n + 4 → ((W'.setCell ⟨n + 3, 0, none⟩ u).setCell ⟨n + 4, 0, none⟩ u').heap[j]? = W'.heap[j]? := fun j h1 h2 => (Below.heap_setCell _ _ _ _ h2).trans (Below.heap_setCell _ _ _ _ h1)
  have far2 : ∀ j, j < n + 8 → j ≠ n + 3 → j ≠ n + 4 → ((W'.setCell ⟨n + 3, 0, none⟩ u).setCell ⟨n + 4, 0, none⟩ u').heap[j]? = W.heap[j]? := fun j h0 h1 h2 => (far j h1 h2).trans (b.block j h0)
  refine ⟨?_, fun j h1 h2 => far2 j h2 (by omega) (by omega), R0.kr (fun j _ h2 => far2 j (by omega) (by omega) (by omega)), ⟨u, u', ?_, ?_, ?_⟩, ⟨by simpa using e1, by simpa using e2⟩, ?_, ?_, by simpa using z⟩
  · exact (k.trans (KeepsFrom.of_grownBy (grownBy_setCell' W' (n + 3) u) (fun j e => by cases e; omega))).trans (KeepsFrom.of_grownBy (grownBy_setCell' _ (n + 4) u') (fun j e => by cases e; omega))
  · rw [World.cell?_setCell_other _ _ _ _ (by simp)]
    exact World.cell?_setCell_same _ _ _ d1
  · exact World.cell?_setCell_same _ _ _ (show World.cell? _ ⟨n + 4, 0, none⟩ = some v' by rw [World.cell?_setCell_other _ _ _ _ (by simp)]; exact d2)
  · rw [nA_snoc, nB_snoc, List.length_append]
    refine (r.turn (grownBy_setCell' W' (n + 3) u) (fun j e => .inl (by cases e; omega))).turn (grownBy_setCell' _ (n + 4) u') (fun j e => .inl (by cases e; omega))
  · intro s hs
    rcases List.mem_append.mp hs with q | q
    · exact ha s q
    · simp at q
      rw [q]
      exact hx
  · refine ((hb.trans (b.mono (by omega))).setCell (by show n ≤ n + 3; omega) _).setCell (by show n ≤ n + 4; omega) _
end Go.Proofs.YtjiffbddgbigcaaDoor
