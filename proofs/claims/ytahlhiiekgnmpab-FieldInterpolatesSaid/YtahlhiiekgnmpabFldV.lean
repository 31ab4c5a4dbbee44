/- FieldInterpolates with its arguments. -/
import Derived.Test.YtahlhiiekgnmpabFldU
import Derived.Test.YtahlhiiekgnmpabFldO
