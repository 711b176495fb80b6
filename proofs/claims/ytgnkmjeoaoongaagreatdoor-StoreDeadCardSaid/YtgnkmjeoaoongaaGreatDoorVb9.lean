/- store -/
import Derived.Test.YtgnkmjeoaoongaaGreatDoorVb7

