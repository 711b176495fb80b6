/-
  XOpen.
-/
import Derived.Test.YtgnkmjeoaoongaaGreatDoorXc2
import Derived.Test.YtgnkmjeoaoongaaGreatDoorXc5
import Derived.Test.YtgnkmjeoaoongaaGreatDoorXc7

