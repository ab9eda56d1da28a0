/- What the reference's parser makes of one text of chapter 11's example. (Parts of one proof, put together.) -/
import Derived.Test.YtlfnfilcbhfdnaaGreatDoorB4
set_option linter.unusedSimpArgs false
set_option linter.unusedVariables false
set_option linter.deprecated false

/- What the reference's parser makes of one text of chapter 11's example. -/
namespace Go.Vs.Tryz
open Go Go.Vs

def txt7 : List UInt8 := [102, 32, 40, 92, 120, 46, 32, 120, 32, 121, 41]
def val7 : V := (.ag [(.c (.int .i64 5)), (.c (.int .i64 0)), (.c (.str [])), (.c (.int .i64 0)), (.c (.sl [[(.int .i64 1), (.int .i64 0), (.str [102]), (.int .i64 0), (.sl []), (.sl []), (.int .i64 0), (.str []), (.int .i64 0), (.int .i64 0), (.sl [])], [(.int .i64 4), (.int .i64 3), (.str [120]), (.int .i64 0), (.sl [[(.int .i64 5), (.int .i64 7), (.str []), (.int .i64 0), (.sl [[(.int .i64 1), (.int .i64 7), (.str [120]), (.int .i64 0), (.sl []), (.sl []), (.int .i64 0), (.str []), (.int .i64 0), (.int .i64 0), (.sl [])], [(.int .i64 1), (.int .i64 9), (.str [121]), (.int .i64 0), (.sl []), (.sl []), (.int .i64 0), (.str []), (.int .i64 0), (.int .i64 0), (.sl [])]]), (.sl []), (.int .i64 0), (.str []), (.int .i64 0), (.int .i64 0), (.sl [])]]), (.sl []), (.int .i64 0), (.str []), (.int .i64 0), (.int .i64 0), (.sl [])]])), .nil, (.c (.int .i64 0)), (.c (.str [])), (.c (.int .i64 0)), (.c (.int .i64 0)), .nil])
set_option maxRecDepth 100000 in
theorem read7 : ev 60 48 [.sc (.c (.str txt7))] [] = some (val7, []) := by kernel_rfl
end Go.Vs.Tryz
