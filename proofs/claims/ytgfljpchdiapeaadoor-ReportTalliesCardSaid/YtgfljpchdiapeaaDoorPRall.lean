/- The first of this seat's printed texts together. -/
import Derived.Test.YtgfljpchdiapeaaDoorPRx0
import Derived.Test.YtgfljpchdiapeaaDoorPRx2
