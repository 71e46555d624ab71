/- rows of edges: two runs in order are made one; the stable sort -/
import Derived.Test.YtfdajignnnhnmaaSortU
import Derived.Test.YtfdajignnnhnmaaSortV
import Derived.Test.YtfdajignnnhnmaaSortN
namespace Go.Proofs.Ytfdajignnnhnmaa
set_option linter.unusedVariables false
set_option linter.unusedSimpArgs false
open Go.RowKit Go.Shelf
attribute [local go_sem] Oper.semAt_some

theorem sym_any (g n c : Nat) (hn : n ≤ 1000000) : ∀ (D a m b : Nat) (L : List Edg) (w : World), b - a ≤ D → a < m → m < b → b ≤ n → In w g n c L → Srt a m L → Srt m b L →
    Calls Try.prog 88 #[.slice (some ⟨g, 0, none⟩) n c, .int .i64 a, .int .i64 m, .int .i64 b, CMPF] w (Merged w g n c a b L)
  | 0, a, m, b, L, w, hD, ham, hmb, hbn, h, h1, h2 => by omega
  | D + 1, a, m, b, L, w, hD, ham, hmb, hbn, h, h1, h2 => by
    by_cases e1 : m = a + 1
    · exact symA_any L g n c a m b w h e1 hmb hbn hn h2
    · by_cases e2 : b = m + 1
      · exact symB_any L g n c a m b w h e2 (by omega) hbn hn h1
      · exact symC_any (D + 1) L g n c a m b w h (by omega) (by omega) hbn hn h1 h2 hD (fun a' m' b' L' w' q1 q2 q3 q4 q5 q6 q7 => sym_any g n c hn D a' m' b' L' w' (by omega) q2 q3 q4 q5 q6 q7)
end Go.Proofs.Ytfdajignnnhnmaa
