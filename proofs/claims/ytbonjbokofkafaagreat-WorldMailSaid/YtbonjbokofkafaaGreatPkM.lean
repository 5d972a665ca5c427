/- Lemmas of the proof: PkM. -/
import Derived.Test.YtbonjbokofkafaaGreatPkK
namespace Go.Proofs.YtbonjbokofkafaaGreat
set_option linter.unusedVariables false
set_option maxRecDepth 100000
set_option maxHeartbeats 64000000
section
open Go.RowKit
theorem ms_cells {w:World} {b o:Nat} {m:Ms} {a:Option Addr} {c:Nat} (h:atG Z23 w b o ⟨m,a,c⟩) :
  w.cell? ⟨b,o,none⟩=some (.int .i64 m.kind)∧w.cell? ⟨b,o+1,none⟩=some (.int .i64 m.frm)∧w.cell? ⟨b,o+2,none⟩=some (.int .i64 m.too)∧w.cell? ⟨b,o+3,none⟩=some (.int .i64 m.boot) ∧
  w.cell? ⟨b,o+4,none⟩=some (.int .i64 m.view)∧w.cell? ⟨b,o+5,none⟩=some (.int .i64 m.last)∧w.cell? ⟨b,o+6,none⟩=some (.int .i64 m.mem)∧w.cell? ⟨b,o+7,none⟩=some (.int .i64 m.pos) ∧
  w.cell? ⟨b,o+8,none⟩=some (.slice a m.ents.length c)∧w.cell? ⟨b,o+9,none⟩=some (.int .i64 m.com)∧w.cell? ⟨b,o+10,none⟩=some (.int .i64 m.num)∧w.cell? ⟨b,o+11,none⟩=some (.int .i64 m.clock)∧w.cell? ⟨b,o+12,none⟩=some (.bool m.yes):=
 ⟨h 0 _ rfl,h 1 _ rfl,h 2 _ rfl,h 3 _ rfl,h 4 _ rfl,h 5 _ rfl,h 6 _ rfl,h 7 _ rfl,h 8 _ rfl,h 9 _ rfl,h 10 _ rfl,h 11 _ rfl,h 12 _ rfl⟩
end
end Go.Proofs.YtbonjbokofkafaaGreat
