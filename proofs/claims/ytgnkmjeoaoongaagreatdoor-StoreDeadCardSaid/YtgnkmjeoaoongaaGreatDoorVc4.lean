/- store -/
import Derived.Test.YtgnkmjeoaoongaaGreatDoorVb8
import Derived.Test.YtgnkmjeoaoongaaGreatDoorVb9
import Derived.Test.YtgnkmjeoaoongaaGreatDoorVc2
import Derived.Test.YtgnkmjeoaoongaaGreatDoorVc0

