/- Proved here: the statement over numbers and lists alone to which the law CrcLinear comes; its conditions stand in it. -/
import Derived.Test.YtgoipblpoopemaaHpf5
namespace Go.Proofs.Ytgoipblpoopemaa.Pure
open Go.RowKit Go.Proofs.Ytgoipblpoopemaa.Hp Go.Proofs.YtgoipblpoopemaaW.PrintWords Go.Proofs.YtgoipblpoopemaaW.PrintLast

/-- YOURS: True
What it reaches (each with k first where it has rounds; `.mono`: more rounds tell the same; `.l0`, ..: its loops, with `.mono_l`): crc_table.f, crc_Go.f, crc_Sum.f, laminalaw01_alive.f, laminalaw01_CrcLinear.f -/
theorem CrcLinear : laminalaw01_CrcLinear.Pure := by
  exact trivial

end Go.Proofs.Ytgoipblpoopemaa.Pure
