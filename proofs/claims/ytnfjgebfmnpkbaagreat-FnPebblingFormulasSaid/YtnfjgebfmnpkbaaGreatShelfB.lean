/- slices.SortFunc at no element lies in the laid shelf. -/
import Derived.Test.YtnfjgebfmnpkbaaGreatShelf
