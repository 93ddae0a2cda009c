/- All printed texts of this seat together. -/
import Derived.Test.YtpjdaglblckgfaaDoorPRx0
import Derived.Test.YtpjdaglblckgfaaDoorPRx1
