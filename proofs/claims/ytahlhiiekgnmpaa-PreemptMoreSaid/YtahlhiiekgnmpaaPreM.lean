/- All walks of the Preempt statements. -/
import Derived.Test.YtahlhiiekgnmpaaPreL
import Derived.Test.YtahlhiiekgnmpaaPreO
