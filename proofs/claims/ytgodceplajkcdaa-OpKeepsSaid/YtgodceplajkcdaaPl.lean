/- The plain data of the program: items, parts, operations, tokens, entries, servers, clients, messages, worlds. No program in sight. -/
namespace Go.Mh

abbrev Bs := List UInt8

structure It where
  c : UInt8
  m : Int
  l : Bs
  deriving DecidableEq

structure Pt where
  k : Int
  n : Int
  its : List It
  set : Int
  clr : Int
  to : Bool
  l : Bs
  deriving DecidableEq

structure Tok where
  k : Int
  name : Bs
  text : Bs
  href : Bs
  deriving DecidableEq

structure En where
  client : Int
  seq : Int
  o : List Pt
  deriving DecidableEq

structure Srv where
  first : List It
  log : List En
  now : List It

structure Cl where
  rev : Int
  base : List It
  now : List It
  seq : Int
  sent : List Pt
  held : List Pt
  joined : Bool

structure Msg where
  rev : Int
  e : En

structure Wd where
  s : Srv
  cl : List Cl
  up : List (List Msg)
  down : List (List Msg)

structure Hap where
  kind : Int
  client : Int
  n : Int
  o : List Pt
  b : Bs

end Go.Mh
