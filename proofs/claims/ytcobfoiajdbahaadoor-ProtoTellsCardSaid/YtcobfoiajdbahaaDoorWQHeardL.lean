/- The walk of what the document hears of rows, events, prefixes. -/
import Derived.Test.YtcobfoiajdbahaaDoorWQHeard26
namespace Go.Proofs.YtcobfoiajdbahaaDoor
open Go.RowKit
set_option linter.unusedVariables false
set_option linter.unusedSimpArgs false
theorem evD_one (r : P.Ev) : ∀ u ∈ evD r, u.oneCell' = true := by intro u hu; simp only [evD, List.mem_cons, List.not_mem_nil, or_false] at hu; rcases hu with rfl | rfl | rfl | rfl | rfl | rfl | rfl <;> rfl
theorem infoRL3 : (Tryd.prog.info? 57).map (fun i => (i.zero, i.size, i.bytes)) = some (some (.agg #[.int .u8 0, .int .u64 0, .int .u64 0, .string ⟨#[]⟩, .int .u64 0]), 5, 48) := by kernel_rfl
theorem infoRE3 : (Tryd.prog.info? 126).map (fun i => (i.zero, i.size, i.bytes)) = some (some (.agg #[.int .u8 0, .int .u64 0, .int .u64 0, .int .i64 0, .string ⟨#[]⟩, .int .u64 0, .int .u64 0]), 7, 64) := by kernel_rfl
theorem infoRX3 : (Tryd.prog.info? 44).map (fun i => (i.zero, i.size, i.bytes)) = some (some (.agg #[.int .u8 0, .int .u64 0, .int .u64 0, .int .i64 0]), 4, 32) := by kernel_rfl
theorem infoSLD : (Tryd.prog.info? 58).map (·.size) = some 1 := by kernel_rfl
theorem infoSED : (Tryd.prog.info? 59).map (·.size) = some 1 := by kernel_rfl
theorem infoSXD : (Tryd.prog.info? 60).map (·.size) = some 1 := by kernel_rfl
end Go.Proofs.YtcobfoiajdbahaaDoor
