/- Proved here: the statement over numbers and lists alone to which the law CrcSums comes; its conditions stand in it. -/
import Derived.Test.YtgoipblpoopemaaHpf3
namespace Go.Proofs.Ytgoipblpoopemaa.Pure
open Go.RowKit Go.Proofs.Ytgoipblpoopemaa.Hp Go.Proofs.YtgoipblpoopemaaW.PrintWords Go.Proofs.YtgoipblpoopemaaW.PrintLast

/-- YOURS: True
What it reaches (each with k first where it has rounds; `.mono`: more rounds tell the same; `.l0`, ..: its loops, with `.mono_l`): crc_table.f, crc_Go.f, crc_Sum.f, laminalaw01_alive.f, laminanum_Copy.f, laminaref01_over.f, laminaref01_Sum.f, laminanum_Kept.f, laminalaw01_CrcSums.f -/
theorem CrcSums : laminalaw01_CrcSums.Pure := by
  exact trivial

end Go.Proofs.Ytgoipblpoopemaa.Pure
