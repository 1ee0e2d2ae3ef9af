/-
  YtcockjjilcapaaaGreatBls: one text stands before another: from the counting of texts.
-/
import Derived.Test.YtcockjjilcapaaaGreatCnt
