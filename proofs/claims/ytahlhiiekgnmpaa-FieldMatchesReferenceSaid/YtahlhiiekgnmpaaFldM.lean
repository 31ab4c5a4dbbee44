/- FieldMatchesReference with its arguments. -/
import Derived.Test.YtahlhiiekgnmpaaFldL
import Derived.Test.YtahlhiiekgnmpaaFldO
