/- FieldValues with its arguments. -/
import Derived.Test.YtahlhiiekgnmpabFldX
import Derived.Test.YtahlhiiekgnmpabFldO
