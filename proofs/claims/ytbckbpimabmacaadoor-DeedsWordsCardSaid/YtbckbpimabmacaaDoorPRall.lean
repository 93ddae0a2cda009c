/- All printed texts of this seat together. -/
import Derived.Test.YtbckbpimabmacaaDoorPRx0
import Derived.Test.YtbckbpimabmacaaDoorPRx1
import Derived.Test.YtbckbpimabmacaaDoorPRx2
import Derived.Test.YtbckbpimabmacaaDoorPRx3
import Derived.Test.YtbckbpimabmacaaDoorPRx4
