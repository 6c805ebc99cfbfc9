/- A slice literal of one block. No statement is proved here. -/
import Derived.Test.YtechlhmmgabikaaDn
import Derived.Great.BuildSlice
namespace Go.Proofs.Ytechlhmmgabikaa.Dk
open Go.RowKit Go.Proofs.Ytechlhmmgabikaa.Mem Go.Proofs.Ytechlhmmgabikaa.Open Go.Proofs.Ytechlhmmgabikaa.Kind Go.Proofs.Ytechlhmmgabikaa.Blk Go.Proofs.Ytechlhmmgabikaa.App
set_option linter.unusedVariables false
set_option linter.unusedSimpArgs false
/-- A slice literal of one element of several cells. -/
theorem wpList_build1 {P : Program} {ops : Array Oper} {rest : List Oper} {o : Oper} {a : Act} {w : World} {Q : Exit → Act → World → Prop} (hg : o.guard = none) (t e : TypeId) (x : Operand) (ho : o.op = .buildSlice t 1 #[(0, x)])
    (n bytes : Nat) (z : Value) (cs : Array Value) (hx : a.eval x = .agg cs) (hs : cs.size = n) (hpos : 0 < n) (hn : n ≤ 2 ^ 24) (hu : P.underlying t = some (.slice e)) (hi : (P.info? e).map (fun i => (i.zero, i.size, i.bytes)) = some (some z, n, bytes))
    (h : wpList P ops Q rest (a.put o.dst (.slice (some ⟨w.heap.size, 0, none⟩) 1 1)) (w.alloc (.cells cs e))) : wpList P ops Q (o :: rest) a w := by
  obtain ⟨ie, hie, hz, h1, h2⟩ := info_parts hi
  refine wpList_buildSlice hg t e 1 _ ho cs ie z hu hie hz (by rw [h1]; omega) (by rw [h1]; omega) ?_ h
  have hf := Great.fill_whole (s := n) hpos [.agg cs] ((Array.range (1 * n)).map (z.cells[· % z.cells.size]!)) (by simp [Value.cells, hs]) (by simp)
  rw [h1]
  simp only [List.map_toArray, List.map_cons, List.map_nil, hx]
  simpa [Value.cells] using hf
end Go.Proofs.Ytechlhmmgabikaa.Dk
