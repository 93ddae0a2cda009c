/- All printed texts of this seat together. -/
import Derived.Test.YtndgjhhhggkdmaaDoorPRx0
import Derived.Test.YtndgjhhhggkdmaaDoorPRx1
import Derived.Test.YtndgjhhhggkdmaaDoorPRx2
import Derived.Test.YtndgjhhhggkdmaaDoorPRx3
import Derived.Test.YtndgjhhhggkdmaaDoorPRx4
