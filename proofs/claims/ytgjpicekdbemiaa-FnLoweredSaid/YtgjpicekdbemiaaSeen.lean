/- A set kept as a map from int to bool that the call itself made: what a look-up answers, and what a store leaves. -/
import Derived.Test.YtgjpicekdbemiaaKit
namespace Go.Proofs.Ytgjpicekdbemiaa
open Go.RowKit

def SeenMap (w : World) (r : Nat) (ks : List Int) : Prop :=
  ∃ es clk, w.heap[r]? = some (.map es clk) ∧ es.toList.map (fun e => (e.key, e.val)) = ks.map (fun q => (Value.int .i64 q, Value.bool true))
theorem findNow_seen (q : Int) : ∀ (es : List MapEntry) (ks : List Int) (i : Nat), es.map (fun e => (e.key, e.val)) = ks.map (fun q => (Value.int .i64 q, Value.bool true)) →
    ∃ a, Instr.findNow (.int .i64) (.int .i64 q) es i = some a ∧ (ks.contains q = true → ∃ j, a = some (j, .bool true)) ∧ (ks.contains q = false → a = none) := by
  intro es
  induction es with
  | nil =>
    intro ks i h
    cases ks with
    | nil => exact ⟨none, rfl, by simp, by simp⟩
    | cons _ _ => simp at h
  | cons x es ih =>
    intro ks i h
    cases ks with
    | nil => simp at h
    | cons y ks =>
      simp only [List.map_cons, List.cons.injEq, Prod.mk.injEq] at h
      obtain ⟨⟨hk, hv⟩, ht⟩ := h
      by_cases hq : q = y
      · subst hq
        exact ⟨some (i, .bool true), by simp [Instr.findNow, hk, hv, Instr.sameNow], fun _ => ⟨i, rfl⟩, fun h => by simp at h⟩
      · obtain ⟨a, h1, h2, h3⟩ := ih ks (i + 1) ht
        have hb : (q == y) = false := by simpa using hq
        refine ⟨a, by simp [Instr.findNow, hk, Instr.sameNow, hb, h1], fun h => h2 ?_, fun h => h3 ?_⟩
        · simpa [List.contains_cons, hb, hq] using h
        · simpa [List.contains_cons, hb, hq] using h
section
variable {P : Program} {t k e : TypeId} {w : World} {r : Nat} {ks : List Int} {q : Int}
theorem seen_new (w : World) : SeenMap (w.alloc (.map #[] 0)) w.heap.size [] := ⟨#[], 0, heap_alloc_new w _, rfl⟩
theorem seen_lookup (ht : P.underlying t = some (.map k e)) (hk : P.underlying k = some (.int .i64)) (hz : (zeroValue e).run P w = .ok (.bool false) w) (h : SeenMap w r ks) :
    (Instr.lookup t (.map (some r)) (.int .i64 q) false).run P w = .ok (.bool (ks.contains q)) w := by
  obtain ⟨es, clk, hb, hes⟩ := h
  obtain ⟨a, h1, h2, h3⟩ := findNow_seen q es.toList ks 0 hes
  have c1 : ∀ b, (Instr.checkKey b 10000 k (.int .i64 q)).run P w = .ok () w := fun b => MapKept.run_checkKey hk (by simp [MapKept.IsKey]) b 9999
  have c2 := MapKept.run_findKey (w := w) hk h1
  cases hc : ks.contains q
  · have := h3 hc
    subst this
    simp [Instr.lookup, run_underlying ht, Sem.run_bind, MapKept.run_getObj_map hb, c1, c2, hz]
  · obtain ⟨j, rfl⟩ := h2 hc
    simp [Instr.lookup, run_underlying ht, Sem.run_bind, MapKept.run_getObj_map hb, c1, c2]
theorem seen_update (ht : P.underlying t = some (.map k e)) (hk : P.underlying k = some (.int .i64)) (h : SeenMap w r ks) (hq : ks.contains q = false) :
    ∃ w', (Instr.mapUpdate t (.map (some r)) (.int .i64 q) (.bool true)).run P w = .ok () w' ∧ SeenMap w' r (ks ++ [q]) ∧ w.grownBy w' (some r) := by
  obtain ⟨es, clk, hb, hes⟩ := h
  obtain ⟨a, h1, _, h3⟩ := findNow_seen q es.toList ks 0 hes
  have := h3 hq
  subst this
  have c1 : ∀ b, (Instr.checkKey b 10000 k (.int .i64 q)).run P w = .ok () w := fun b => MapKept.run_checkKey hk (by simp [MapKept.IsKey]) b 9999
  have c2 := MapKept.run_findKey (w := w) hk h1
  have hs := MapKept.heap_set (o' := .map (es.push { key := .int .i64 q, val := .bool true, born := clk }) (clk + 1)) hb
  refine ⟨{ w with heap := w.heap.setIfInBounds r (.map (es.push { key := .int .i64 q, val := .bool true, born := clk }) (clk + 1)) }, ?_, ⟨_, _, hs.1, ?_⟩, ⟨rfl, rfl, rfl, by simp, fun i _ hi => hs.2 i (fun e => hi (by rw [e]))⟩⟩
  · have c3 := MapKept.run_setObj_map (P := P) (.map (es.push { key := .int .i64 q, val := .bool true, born := clk }) (clk + 1)) hb
    simp [Instr.mapUpdate, run_underlying ht, Sem.run_bind, MapKept.run_getObj_map hb, c1, c2, c3]
  · simp [hes]
end
end Go.Proofs.Ytgjpicekdbemiaa
