/-
  WOpen.
-/
import Derived.Test.YtgnkmjeoaoongaaGreatDoorXc4

