/- All printed texts of this seat together. -/
import Derived.Test.YtmoiochblmdgfaaDoorPRx0
import Derived.Test.YtmoiochblmdgfaaDoorPRx1
import Derived.Test.YtmoiochblmdgfaaDoorPRx2
import Derived.Test.YtmoiochblmdgfaaDoorPRx3
import Derived.Test.YtmoiochblmdgfaaDoorPRx4
import Derived.Test.YtmoiochblmdgfaaDoorPRx5
import Derived.Test.YtmoiochblmdgfaaDoorPRx6
import Derived.Test.YtmoiochblmdgfaaDoorPRx7
