import Derived.Test.YtdffhgibkeifmaaNum
import Derived.Laws.StructEq
namespace Go.Proofs.Ytdffhgibkeifmaa
open Go.RowKit

theorem form_eql (a b c a2 b2 c2 : Int) (w : World) : (binOp .eql 36 (.agg #[.int .i64 a, .int .i64 b, .int .i64 c]) (.agg #[.int .i64 a2, .int .i64 b2, .int .i64 c2])).run Try.prog w = .ok (.bool ((a == a2) && ((b == b2) && (c == c2)))) w := by
  have hf : (Try.prog.fieldsOf 36).toList = (match Try.prog.underlying 36 with | some (.struct fs) => fs.toList | _ => []) := by kernel_rfl
  rw [run_eql_struct, run_equalIn_agg (d := 9999) (ht := by kernel_rfl) (hp := by kernel_rfl), hf, Try.underlying36]
  by_cases h1 : a = a2 <;> by_cases h2 : b = b2 <;> by_cases h3 : c = c2 <;> simp [Op.eqFields, part, go_sem, h1, h2, h3]

theorem form_neq (a b c a2 b2 c2 : Int) (w : World) : (binOp .neq 36 (.agg #[.int .i64 a, .int .i64 b, .int .i64 c]) (.agg #[.int .i64 a2, .int .i64 b2, .int .i64 c2])).run Try.prog w = .ok (.bool (!((a == a2) && ((b == b2) && (c == c2))))) w := by
  have hf : (Try.prog.fieldsOf 36).toList = (match Try.prog.underlying 36 with | some (.struct fs) => fs.toList | _ => []) := by kernel_rfl
  rw [run_neq_struct, run_equalIn_agg (d := 9999) (ht := by kernel_rfl) (hp := by kernel_rfl), hf, Try.underlying36]
  by_cases h1 : a = a2 <;> by_cases h2 : b = b2 <;> by_cases h3 : c = c2 <;> simp [Op.eqFields, part, go_sem, h1, h2, h3]

end Go.Proofs.Ytdffhgibkeifmaa
